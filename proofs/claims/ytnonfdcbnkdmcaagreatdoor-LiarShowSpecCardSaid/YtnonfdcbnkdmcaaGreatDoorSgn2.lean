/- sign.Public, Sign, Verify -/
import Derived.Test.YtnonfdcbnkdmcaaGreatDoorSgn
import Derived.Test.YtnonfdcbnkdmcaaGreatDoorGrp2
import Derived.Deep.RegionHeld3
import Derived.Laws.ResultCell
namespace Go.Proofs.YtnonfdcbnkdmcaaGreatDoor
open Go.RowKit Go.Mem

def keyOk (x : Int) : Bool := decide (1 ≤ x ∧ x < 2305843009213688669)
def pubB (b x : Int) : Int := (Grp.exp b x).1
theorem ret_pub {b x : Int} {w : World} {e : Ending} {w' : World} (h : RetII (Grp.exp b x) w e w') : ∃ q, e = .returned (.tuple #[.int .i64 (pubB b x), .int .i64 q]) ∧ Below w.heap.size w w' := ⟨_, h.1, h.2⟩
def publicK (b x : Int) : Int × Int := if keyOk x then (pubB b x, 0) else (0, 50)
theorem publicK_t {b x : Int} (h : keyOk x = true) : publicK b x = (pubB b x, 0) := by simp [publicK, h]
theorem publicK_f {b x : Int} (h : keyOk x = false) : publicK b x = (0, 50) := by simp [publicK, h]

set_option maxHeartbeats 1000000 in
theorem valid_any (x : Int) (w : World) : Calls Tryz.prog 106 #[.int .i64 x] w (fun e w' => e = .returned (.bool (keyOk x)) ∧ w' = w) := by
 go_enter Tryz.func106, Tryz.ntmps106
 by_cases h1 : 1 ≤ x <;> by_cases h2 : x < 2305843009213688669
 all_goals
  go_wp2_with fail
  go_returns
  exact ⟨by simp [keyOk, h1, h2], rfl⟩

set_option maxHeartbeats 1000000 in
theorem public_any (x : Int) (w : World) : Calls Tryz.prog 107 #[.int .i64 x] w (RetI (pubB 4 x) w) := by
 have hg : Hid (Calls Tryz.prog 128 #[.int .i64 x] w (fun e w' => ∃ q, e = .returned (.tuple #[.int .i64 (pubB 4 x), .int .i64 q]) ∧ Below w.heap.size w w')) := (gbase_any x w).mono fun _ _ h => ret_pub h
 generalize pubB 4 x = p at *
 go_enter Tryz.func107, Tryz.ntmps107
 go_wp2_with fail
 refine hg.out.mono ?_
 rintro e w' ⟨q, rfl, hb⟩
 go_wp2_with fail
 go_returns
 exact ⟨rfl, hb⟩

set_option maxHeartbeats 1000000 in
theorem Public_any (x : Int) (w : World) : Calls Tryz.prog 67 #[.int .i64 x] w (RetII (publicK 4 x) w) := by
 have hv := Lib.hid (valid_any x w)
 have hp := Lib.hid (public_any x w)
 cases hk : keyOk x with
 | true =>
  rw [publicK_t hk]
  rw [hk] at hv
  generalize pubB 4 x = p at *
  clear hk
  go_enter Tryz.func67, Tryz.ntmps67
  go_wp2_with fail
  refine hv.out.mono ?_
  rintro e w' ⟨rfl, rfl⟩
  go_wp2_with fail
  refine hp.out.mono ?_
  rintro e w1 ⟨rfl, hb⟩
  go_wp2_with fail
  go_returns
  exact ⟨rfl, hb⟩
 | false =>
  rw [publicK_f hk]
  rw [hk] at hv
  clear hk hp
  go_enter Tryz.func67, Tryz.ntmps67
  go_wp2_with fail
  refine hv.out.mono ?_
  rintro e w' ⟨rfl, rfl⟩
  go_wp2_with fail
  go_returns
  exact ⟨rfl, Below.refl _ _⟩

def nonceK (x : Int) (msg : List Nat) : Int := hashK [110, 111, 110, 99, 101] msg [x]
def signH (msg : List Nat) (r p : Int) : Int := hashK [115, 105, 103, 110] msg [r, p]
def signS (k h x : Int) : Int × Int := Fld.add k (Fld.mul h x).1
def signK (b x : Int) (msg : List Nat) : Int × Int × Int :=
 if keyOk x then (pubB b (nonceK x msg), signS (nonceK x msg) (signH msg (pubB b (nonceK x msg)) (pubB b x)) x) else (0, 0, 50)
theorem signK_t {b x : Int} {msg : List Nat} (h : keyOk x = true) : signK b x msg = (pubB b (nonceK x msg), signS (nonceK x msg) (signH msg (pubB b (nonceK x msg)) (pubB b x)) x) := by simp [signK, h]
theorem signK_f {b x : Int} {msg : List Nat} (h : keyOk x = false) : signK b x msg = (0, 0, 50) := by simp [signK, h]
def SignPost (v : Int × Int × Int) (w : World) (e : Ending) (w' : World) : Prop := e = .returned (.tuple #[.agg #[.int .i64 v.1, .int .i64 v.2.1], .int .i64 v.2.2]) ∧ Below w.heap.size w w'
theorem pubB_bd (b x : Int) : 0 ≤ pubB b x ∧ pubB b x < 4611686018427377339 := by
 unfold pubB Grp.exp
 split
 · split
   · have := Grp.pw_lt b.toNat x.toNat
     have hP : Grp.P = 4611686018427377339 := rfl
     constructor
     · simp
     · simp only []; omega
   · simp
 · simp

theorem sign_ret {w Wz : World} {tb : Nat} {R S E : Int} {a : Act} (hB : Blk Wz tb 34 [.int .i64 R, .int .i64 S]) (hb : Below w.heap.size w Wz) (h4 : a.tmps.getD 4 undef = .pointer (some ⟨tb, 0, none⟩)) (h5 : a.tmps.getD 5 undef = .int .i64 E) (hd : a.defers = []) :
 bodyPost Tryz.prog Tryz.f83 (SignPost (R, S, E) w) .ret a Wz := by
 have c0 := hB.at_ (i := 0) rfl
 have c1 := hB.at_ (i := 1) rfl
 refine bodyPost_ret (v := .tuple #[.agg #[.int .i64 R, .int .i64 S], .int .i64 E]) ?_ hd ⟨rfl, hb⟩
 rw [results_cell_tmp rfl, h4, h5]
 simp [go_sem, c0, c1]

def SigW (w : World) (tb : Nat) (R : Int) (wz : World) : Prop := Blk wz tb 34 [.int .i64 R, .int .i64 0] ∧ Below w.heap.size w wz
section
variable {w wz wq : World} {tb : Nat} {R : Int}
theorem SigW.next (hb : Below wz.heap.size wz wq) (h : SigW w tb R wz) : SigW w tb R wq := ⟨h.1.below hb h.1.lt, h.2.trans (hb.mono h.2.size)⟩
theorem SigW.drew (h : SigW w tb R wz) : SigW w tb R wz.drew := ⟨h.1, h.2.drew⟩
theorem SigW.alloc (h : SigW w tb R wz) (o : Obj) : SigW w tb R (wz.alloc o) := h.next ((Below.refl _ _).alloc (Nat.le_refl _) o)
theorem SigW.both (h : SigW w tb R wz) : wz.cell? ⟨tb, 0, none⟩ = some (.int .i64 R) ∧ SigW w tb R wz := ⟨h.1.at_ (i := 0) rfl, h⟩
theorem SigW.nextB (hb : Below wz.heap.size wz wq) (h : wz.cell? ⟨tb, 0, none⟩ = some (.int .i64 R) ∧ SigW w tb R wz) : wq.cell? ⟨tb, 0, none⟩ = some (.int .i64 R) ∧ SigW w tb R wq := (h.2.next hb).both
theorem SigW.drewB (h : wz.cell? ⟨tb, 0, none⟩ = some (.int .i64 R) ∧ SigW w tb R wz) : wz.drew.cell? ⟨tb, 0, none⟩ = some (.int .i64 R) ∧ SigW w tb R wz.drew := h.2.drew.both
theorem SigW.allocB (h : wz.cell? ⟨tb, 0, none⟩ = some (.int .i64 R) ∧ SigW w tb R wz) (o : Obj) : (wz.alloc o).cell? ⟨tb, 0, none⟩ = some (.int .i64 R) ∧ SigW w tb R (wz.alloc o) := (h.2.alloc o).both
end

set_option maxRecDepth 20000 in
set_option maxHeartbeats 2000000 in
theorem Sign_any (x : Int) (hx : -9223372036854775808 ≤ x ∧ x ≤ 9223372036854775807) (a : Option Addr) (n c : Nat) (l : List Nat) (w : World) (HT : Tabs w) (H : BS w a n c l) (hn : n ≤ 140737488354000) :
 Calls Tryz.prog 83 #[.int .i64 x, .slice a n c] w (SignPost (signK 4 x l) w) := by
 have HT' := Lib.hid HT; have H' := Lib.hid H
 clear HT H
 have hv := Lib.hid (valid_any x)
 cases hk : keyOk x with
 | true =>
  rw [signK_t hk]
  rw [hk] at hv
  go_enter Tryz.func83, Tryz.ntmps83
  go_wp2_with fail
  obtain ⟨tb, htb⟩ : ∃ tb, Hid (w.heap.size = tb) := ⟨_, rfl⟩
  rw [htb.out]
  generalize hW1 : World.alloc w _ = W1
  have hB1 : Hid (Blk W1 tb 34 [.int .i64 0, .int .i64 0]) := by rw [← hW1, ← htb.out]; exact Blk.new w _ _
  have hb1 : Hid (Below w.heap.size w W1) := by rw [← hW1]; exact (Below.refl _ w).alloc (Nat.le_refl _) _
  clear hW1
  refine (hv.out _).mono ?_
  rintro e w' ⟨rfl, rfl⟩
  have hal := Lib.hid ((Below.refl w'.heap.size w').alloc (Nat.le_refl _) (.cells #[.int .i64 x] 3))
  have hh := Lib.hid (hash_any ⟨#[110, 111, 110, 99, 101]⟩ (by decide) a n c l w'.heap.size 1 1 3 [x] (w'.alloc (.cells #[.int .i64 x] 3)) ((HT'.out.below hb1.out).below hal.out) ((H'.out.below hb1.out).below hal.out) hn (Blk.new w' 3 [.int .i64 x]) rfl (by omega) (by omega) (by omega) (by simpa using hx))
  have hnn : Hid ((hashK (octets ⟨#[110, 111, 110, 99, 101]⟩) l [x] : Int) = nonceK x l) := rfl
  rw [hnn.out] at hh
  generalize nonceK x l = k at *
  clear hnn
  go_wp2_with fail
  refine hh.out.mono ?_
  rintro e w2 ⟨rfl, hb2⟩
  have hB2 := Lib.hid ((hB1.out.below hal.out hB1.out.lt).below hb2 (Nat.lt_of_lt_of_le hB1.out.lt hal.out.size))
  have hb2' := Lib.hid (hb1.out.trans ((hal.out.mono hb1.out.size).trans (hb2.mono (Nat.le_trans hb1.out.size hal.out.size))))
  clear hb2 hal hB1 hb1 hh
  have hbs : Hid (Calls Tryz.prog 128 #[.int .i64 k] w2 (fun e w' => ∃ q, e = .returned (.tuple #[.int .i64 (pubB 4 k), .int .i64 q]) ∧ Below w2.heap.size w2 w')) := (gbase_any k w2).mono fun _ _ h => ret_pub h
  have hR := Lib.hid (pubB_bd 4 k)
  generalize pubB 4 k = R at *
  go_wp2_with fail
  refine hbs.out.mono ?_
  rintro e w3 ⟨q, rfl, hb3⟩
  have hB3 := hB2.out.below hb3 hB2.out.lt
  have hb3' := Lib.hid (hb2'.out.trans (hb3.mono hb2'.out.size))
  have c0 := hB3.at_ (i := 0) rfl
  have f0 := hB3.frozen 0
  have hB3' := Lib.hid hB3
  clear hb3 hB3 hB2 hb2' hbs
  have hpub := Lib.hid (fun W => public_any x W)
  have hpb := Lib.hid (pubB_bd 4 x)
  generalize pubB 4 x = p at *
  have hss : Hid (signS k (signH l R p) x = Fld.add k (Fld.mul (signH l R p) x).1) := rfl
  have hh : Hid (∀ W : World, ((W.alloc (.cells #[.int .i64 R, .int .i64 p] 3)).cell? ⟨tb, 0, none⟩ = some (.int .i64 R) ∧ SigW w tb R (W.alloc (.cells #[.int .i64 R, .int .i64 p] 3))) → Calls Tryz.prog 127 #[.string ⟨#[115, 105, 103, 110]⟩, .slice a n c, .slice (some ⟨W.heap.size, 0, none⟩) 2 2] (W.alloc (.cells #[.int .i64 R, .int .i64 p] 3)) (RetI (signH l R p) (W.alloc (.cells #[.int .i64 R, .int .i64 p] 3)))) := fun W hS =>
   hash_any ⟨#[115, 105, 103, 110]⟩ (by decide) a n c l W.heap.size 2 2 3 [R, p] _ (HT'.out.below hS.2.2) (H'.out.below hS.2.2) hn (Blk.new W 3 [.int .i64 R, .int .i64 p]) rfl (by omega) (by omega) (by omega) (by
    intro u hu
    simp only [List.mem_cons, List.not_mem_nil, or_false] at hu
    have h1 := hR.out; have h2 := hpb.out
    rcases hu with rfl | rfl <;> omega)
  generalize signH l R p = h at *
  have hmul := Lib.hid (fun W => fmul_any h x W)
  generalize Fld.mul h x = mm at *
  obtain ⟨m1, m2⟩ := mm
  have hadd := Lib.hid (fun W => fadd_any k m1 W)
  simp only [] at *
  generalize Fld.add k m1 = ss at *
  obtain ⟨S1, S2⟩ := ss
  go_wp2_with fail
  have hS : SigW w tb R (w3.setCell ⟨tb, 0, none⟩ (.int .i64 R)) := ⟨hB3'.out.set 0 _, hb3'.out.setCell (Nat.le_of_eq htb.out) _⟩
  have cR := hS.both
  generalize World.setCell w3 _ _ = w4 at *
  clear c0 f0 hB3' hb3' hv
  go_region_held3 (fun wz => wz.cell? ⟨tb, 0, none⟩ = some (.int .i64 R) ∧ SigW w tb R wz) (repeat (first | assumption | apply SigW.drewB | apply SigW.allocB))
   (first
     | (go_at_call 107; refine (hpub.out _).mono ?_; rintro e wq ⟨rfl, hbq⟩; have hsq := SigW.nextB hbq (by assumption))
      | (go_at_call 127; refine (hh.out _ (by assumption)).mono ?_; rintro e wq ⟨rfl, hbq⟩; have hsq := SigW.nextB hbq (by assumption))
      | (go_at_call 129; refine (hmul.out _).mono ?_; rintro e wq ⟨rfl, hbq⟩; have hsq := SigW.nextB hbq (by assumption)))
  have hSq := hsq.2
  have c0 := hsq.1
  have f0 := hSq.1.frozen 0
  have c1 := hSq.1.at_ (i := 1) rfl
  have f1 := hSq.1.frozen 1
  have hS2 := Lib.hid hSq
  clear hSq hsq hS cR hh hmul hpub
  go_wp2_with fail
  refine (hadd.out _).mono ?_
  rintro e w9 ⟨rfl, hb9⟩
  have hS9 := SigW.next hb9 hS2.out
  have c0 := hS9.1.at_ (i := 0) rfl
  have f0 := hS9.1.frozen 0
  have c1 := hS9.1.at_ (i := 1) rfl
  have f1 := hS9.1.frozen 1
  have hBq := Lib.hid hS9.1
  have hbq := Lib.hid hS9.2
  clear hS9 hb9
  go_wp2_with fail
  generalize hW : World.setCell _ _ _ = Wz
  have hBz : Blk Wz tb 34 [.int .i64 R, .int .i64 S1] := by rw [← hW]; exact ((hBq.out.set 1 (.int .i64 S1)).set 0 (.int .i64 R)).set 1 (.int .i64 S1)
  have hbz : Below w.heap.size w Wz := by rw [← hW]; exact ((hbq.out.setCell (Nat.le_of_eq htb.out) _).setCell (Nat.le_of_eq htb.out) _).setCell (Nat.le_of_eq htb.out) _
  rw [hss.out]
  exact sign_ret hBz hbz rfl rfl rfl
 | false =>
  rw [signK_f hk]
  rw [hk] at hv
  go_enter Tryz.func83, Tryz.ntmps83
  go_wp2_with fail
  obtain ⟨tb, htb⟩ : ∃ tb, Hid (w.heap.size = tb) := ⟨_, rfl⟩
  rw [htb.out]
  generalize hW1 : World.alloc w _ = W1
  have hB1 : Hid (Blk W1 tb 34 [.int .i64 0, .int .i64 0]) := by rw [← hW1, ← htb.out]; exact Blk.new w _ _
  have hb1 : Hid (Below w.heap.size w W1) := by rw [← hW1]; exact (Below.refl _ w).alloc (Nat.le_refl _) _
  clear hW1
  refine (hv.out _).mono ?_
  rintro e w' ⟨rfl, rfl⟩
  have c0 := hB1.out.at_ (i := 0) rfl
  have f0 := hB1.out.frozen 0
  have c1 := hB1.out.at_ (i := 1) rfl
  have f1 := hB1.out.frozen 1
  go_wp2_with fail
  generalize hW : World.setCell _ _ _ = Wz
  have hBz : Blk Wz tb 34 [.int .i64 0, .int .i64 0] := by rw [← hW]; exact (hB1.out.set 0 (.int .i64 0)).set 1 (.int .i64 0)
  have hbz : Below w.heap.size w Wz := by rw [← hW]; exact (hb1.out.setCell (Nat.le_of_eq htb.out) _).setCell (Nat.le_of_eq htb.out) _
  exact sign_ret hBz hbz rfl rfl rfl
end Go.Proofs.YtnonfdcbnkdmcaaGreatDoor
