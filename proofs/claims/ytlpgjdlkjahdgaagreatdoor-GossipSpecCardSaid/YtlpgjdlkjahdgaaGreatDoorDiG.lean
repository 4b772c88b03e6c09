/- directory.hashed, Digest -/
import Derived.Test.YtlpgjdlkjahdgaaGreatDoorDiF
import Derived.Laws.EntriesVeiled
namespace Go.Proofs.YtlpgjdlkjahdgaaGreatDoor
open Go.RowKit Go.Mem
open Go.Dr (Lst Rt)

def HasPost (K : Nat → Prop) (a : Option Addr) (n c : Nat) (l : List Lst) (w : World) (e : Ending) (w' : World) : Prop :=
  ∃ lb fb, e = .returned (hashV lb fb) ∧ HasH K a n c l lb fb w' ∧ Below w.heap.size w w'

set_option maxHeartbeats 1000000 in
theorem hashed_any (K : Nat → Prop) (a : Option Addr) (n c : Nat) (l : List Lst) (w : World) (HT : Tabs w) (H : GS K w a n c l) :
    Calls Tryz.prog 207 #[.slice a n c] w (HasPost K a n c l w) := by
  have HT' := Lib.hid HT; have H' := Lib.hid H
  clear HT H
  obtain ⟨tb, htb⟩ : ∃ tb, Hid (w.heap.size = tb) := ⟨_, rfl⟩
  go_enter Tryz.func207, Tryz.ntmps207
  go_upto_region 2 with fail
  rw [htb.out]
  generalize hW : World.alloc _ _ = W
  have hL : Blk W tb 111 [.slice a n c] := by rw [← hW, ← htb.out]; exact (Blk.new w _ [.slice a n c]).alloc _
  have hF : Blk W (tb + 1) 239 [.nilFunc] := by
    rw [← hW, ← htb.out]
    have := Blk.new (w.alloc (.cells #[.slice a n c] 111)) 239 [.nilFunc]
    rw [World.size_alloc] at this
    exact this
  have hb : Below w.heap.size w W := by rw [← hW]; exact ((Below.refl _ w).alloc (Nat.le_refl _) _).alloc (by simp) _
  clear hW
  have c0 := hF.at_ (i := 0) (x := .nilFunc) rfl
  have f0 := hF.frozen 0
  have hF2 := hF.set 0 (hashV tb (tb + 1))
  have hL2 := hL.far (p := ⟨tb + 1, 0, none⟩) (by simp) (hashV tb (tb + 1))
  have hb2 : Below w.heap.size w (W.setCell ⟨tb + 1, 0, none⟩ (hashV tb (tb + 1))) := hb.setCell (by have := htb.out; show _ ≤ tb + 1; omega) _
  have c1 : (W.setCell ⟨tb + 1, 0, none⟩ (hashV tb (tb + 1))).cell? ⟨tb + 1, 0, none⟩ = some (hashV tb (tb + 1)) := hF2.at_ (i := 0) rfl
  have hfin : Hid (HasPost K a n c l w (.returned (hashV tb (tb + 1))) (W.setCell ⟨tb + 1, 0, none⟩ (hashV tb (tb + 1)))) :=
    ⟨tb, tb + 1, rfl, ⟨hL2.at_ (i := 0) rfl, hL2.lt, c1, hF2.lt, H'.out.below hb2, HT'.out.below hb2⟩, hb2⟩
  clear hL hF hb hF2 hL2 hb2
  unfold hashV at c1 hfin
  go_wp2_with fail
  go_ret
  exact hfin.out

set_option maxRecDepth 20000 in
set_option maxHeartbeats 1000000 in
theorem digestL_any (K : Nat → Prop) (a : Option Addr) (n c : Nat) (l : List Lst) (w : World) (HT : Tabs w) (H : GS K w a n c l) :
    Calls Tryz.prog 170 #[.slice a n c] w (DigPost (Go.Dr.rootD l) w) := by
  have HT' := Lib.hid HT; have H' := Lib.hid H
  clear HT H
  obtain ⟨tb, htb⟩ : ∃ tb, Hid (w.heap.size = tb) := ⟨_, rfl⟩
  obtain ⟨D, hDd⟩ : ∃ D, Hid (Go.Dr.rootD l = D) := ⟨_, rfl⟩
  have hDl : Hid (D.length = 32) := by show _ = _; rw [← hDd.out]; exact Go.Dr.nodeD_length l 9 1
  rw [hDd.out]
  go_enter Tryz.func170, Tryz.ntmps170
  go_upto_region 1 with fail
  rw [htb.out]
  generalize hW : World.alloc _ _ = W
  have hb : Hid (Below w.heap.size w W) := by rw [← hW]; exact (Below.refl _ w).alloc (Nat.le_refl _) _
  have hD : Hid (Blk W tb 43 (bv (List.replicate 32 0))) := by rw [← hW, ← htb.out]; exact zero_dig w
  clear hW
  go_wp2_with fail
  refine (hashed_any K a n c l W (HT'.out.below hb.out) (H'.out.below hb.out)).mono ?_
  rintro e w1 ⟨lb, fb, rfl, hH, hb1⟩
  have hH' := Lib.hid hH
  have hD1 := Lib.hid (hD.out.below hb1 hD.out.lt)
  have hb2 := Lib.hid (hb.out.trans (hb1.mono hb.out.size))
  clear hH hb hD hb1
  unfold hashV
  go_wp2_with fail
  refine (at_any K a n c l lb fb 9 1 (by decide) (by decide) w1 hH'.out).mono ?_
  rintro e w2 ⟨rfl, hb3⟩
  have hrd : Go.Dr.nodeD l 9 1 = D := hDd.out
  rw [hrd]
  obtain ⟨W9, hP, hpost⟩ := ret_dig (D := D) (hD1.out.below hb3 hD1.out.lt) (by simp) hDl.out (hb2.out.trans (hb3.mono hb2.out.size)) (Nat.le_of_eq htb.out)
  have hP' := Lib.hid hP; have hpost' := Lib.hid hpost
  clear hP hpost hb3 hb2 hH' hD1
  generalize bv D = RES at *
  go_wp2_with (refine wpList_store_mid (by rfl) 43 (.tmp 2) (.tmp 5) (by rfl) tb 0 RES.toArray (by rfl) (by rfl) hP'.out.there hP'.out.info (by simpa using hP'.out.one) ?_)
  generalize hW9 : World.setCells _ _ _ _ = Wa
  obtain rfl : W9 = Wa := by rw [← hW9]; exact hP'.out.eq
  exact bodyPost_ret (results_cell_row rfl _ _ tb 43 RES.toArray (0, 0) _ rfl hP'.out.blk Tryz.underlying43 rfl hP'.out.info) rfl hpost'.out
end Go.Proofs.YtlpgjdlkjahdgaaGreatDoor
