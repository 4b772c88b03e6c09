/- directory.Set directory.Set, where a listing is set sane of chapter 35's laws what a row's arguments are: listings, roots, directories, watches -/
import Derived.Test.YtlpgjdlkjahdgaaGreatDoorAl
import Derived.Test.YtlpgjdlkjahdgaaGreatDoorRc
import Derived.Test.YtlpgjdlkjahdgaaGreatDoorRa
import Derived.Test.YtlpgjdlkjahdgaaGreatDoorRows
import Derived.Test.YtlpgjdlkjahdgaaGreatDoorCards
import Derived.Test.YtlpgjdlkjahdgaaGreatDoorTie
import Derived.SevenTiedAt
import Derived.Deep.DeepHandedRow
import Derived.Deep.DeepWitnessRowRef
import Derived.ProofKit
import Derived.LaidMore
import Derived.OpenShut
import Derived.ChangeOld
import Derived.Lib.SmallJoins
import Derived.Deep.Slices
import Derived.Deep.Strs
import Derived.Stop.Joined
namespace Go.Proofs.YtlpgjdlkjahdgaaGreatDoor
open Go.RowKit Go.Mem
open Go.Dr (Lst Rt Dir)

def SetPost (x : Dir × Int) (w : World) (e : Ending) (w' : World) : Prop :=
 (x.2 = 0 ∧ ∃ la ln lc ra rn rc, e = .returned (.tuple #[.agg (dirC x.1.priv la ln lc ra rn rc).toArray, .int .i64 0]) ∧ DM (fun b => w.heap.size ≤ b) w' x.1 la ln lc ra rn rc ∧ Below w.heap.size w w') ∨
 (x.2 ≠ 0 ∧ e = .returned (.tuple #[.agg (dirC 0 none 0 0 none 0 0).toArray, .int .i64 x.2]) ∧ Below w.heap.size w w')

theorem gs_rows {w : World} {l : List Lst} {rows : List (List Value)} (h : RowsOf 5 (GV w) l rows) : rows = l.map gC := by
 apply List.ext_getElem?
 intro i
 rw [List.getElem?_map]
 cases e : l[i]? with
 | none =>
  have : rows.length ≤ i := by rw [h.len]; exact List.getElem?_eq_none_iff.1 e
  rw [List.getElem?_eq_none this]; rfl
 | some x =>
  obtain ⟨r, hr, hv, _⟩ := h.get e
  rw [hr, hv.2]; rfl
theorem rows_gs (w : World) {l : List Lst} (h : ∀ x ∈ l, OkG x) : RowsOf 5 (GV w) l (l.map gC) :=
 ⟨by rw [List.length_map], by intro r hr; obtain ⟨x, _, rfl⟩ := List.mem_map.1 hr; rfl, fun i e r he hr => by
  rw [List.getElem?_map, he] at hr
  cases hr
  exact ⟨h e (List.mem_of_getElem? he), rfl⟩⟩
def gR (l : List Lst) : List Value := (l.map gC).flatten
theorem gR_one (l : List Lst) : ∀ u ∈ gR l, u.oneCell' = true := by
 intro u hu
 obtain ⟨r, hr, hu⟩ := List.mem_flatten.1 hu
 obtain ⟨x, _, rfl⟩ := List.mem_map.1 hr
 exact gC_one x u hu
theorem gR_sz (l : List Lst) : ∀ r ∈ l.map gC, r.length = 5 := by intro r hr; obtain ⟨x, _, rfl⟩ := List.mem_map.1 hr; rfl
theorem gR_len (l : List Lst) : (gR l).length = l.length * 5 := by unfold gR; rw [flat_len (gR_sz l), List.length_map]
theorem gR_take (l : List Lst) (k : Nat) : gR (l.take k) = (gR l).take (k * 5) := by unfold gR; rw [List.map_take, flat_take k (gR_sz l)]
theorem gR_drop (l : List Lst) (k : Nat) : gR (l.drop k) = (gR l).drop (k * 5) := by unfold gR; rw [List.map_drop, flat_drop k (gR_sz l)]
theorem gR_append (a b : List Lst) : gR (a ++ b) = gR a ++ gR b := by simp [gR]
theorem gR_cons (x : Lst) (b : List Lst) : gR (x :: b) = gC x ++ gR b := by simp [gR]
theorem GS.reads {K : Nat → Prop} {w : World} {a : Option Addr} {n c : Nat} {l : List Lst} (h : GS K w a n c l) : Sl.Reads w a n c 5 (gR l) := by
 obtain ⟨rows, hR, hO⟩ := h.rows
 rw [gs_rows hO] at hR
 exact hR
theorem GS.oks {K : Nat → Prop} {w : World} {a : Option Addr} {n c : Nat} {l : List Lst} (h : GS K w a n c l) : ∀ x ∈ l, OkG x := fun _ hx => h.ok hx
theorem own_gs {w : World} {B n : Nat} {v : Value} {l : List Lst} (h : w.ownsRow B 118 5 v n (gR l)) (hl : l.length = n) (ho : ∀ x ∈ l, OkG x) : ∃ a c, v = .slice a n c ∧ GS (fun b => B ≤ b) w a n c l := by
 obtain ⟨a, c, rfl, hR, hs⟩ := Sl.of_owns h
 exact ⟨a, c, rfl, hl, fun _ ad e => (hs ad e).1, _, hR, rows_gs w ho⟩
theorem put_place {w : World} {B n p : Nat} {v : Value} {l : List Lst} (h : w.ownsRow B 118 5 v n (gR l)) (hl : l.length = n) (hp : p < n) (x : Lst) :
 ∃ g cap, v = .slice (some ⟨g, 0, none⟩) n cap ∧ B ≤ g ∧ g < w.heap.size ∧ w.there g (p * 5) (gC x).toArray.size ∧ w.grownBy (w.setCells g (p * 5) (gC x)) (some g) ∧ (w.setCells g (p * 5) (gC x)).ownsRow B 118 5 v n (gR (l.set p x)) := by
 obtain ⟨g, cap, rest, rfl, hB, hgl, hg, hnc, hcm, hlen⟩ := Sl.owns_row h (by omega)
 have hB0 : Blk w g 118 (gR l ++ rest) := hg
 have hpl : p < l.length := by omega
 have e1 : gR l = (gR l).take (p * 5) ++ gC (l[p]) ++ (gR l).drop ((p + 1) * 5) := by
  conv => lhs; rw [← List.take_append_drop p l, List.drop_eq_getElem_cons hpl, gR_append, gR_cons, gR_take, gR_drop]
  rw [List.append_assoc]
 have e2 : gR (l.set p x) = (gR l).take (p * 5) ++ gC x ++ (gR l).drop ((p + 1) * 5) := by
  rw [List.set_eq_take_append_cons_drop, if_pos hpl, gR_append, gR_cons, gR_take, gR_drop, List.append_assoc]
 have ht : ((gR l).take (p * 5)).length = p * 5 := by rw [List.length_take, gR_len]; omega
 have hlen2 : (gR l ++ rest).length = cap * 5 := by rw [List.length_append]; exact hlen
 refine ⟨g, cap, rfl, hB, hgl, ?_, grown_setCells _ (World.grownBy.refl w _), ?_⟩
 · intro j hj
   have hj' : j < 5 := hj
   have := hB0.there (p * 5 + j) (by rw [hlen2]; omega)
   rw [Nat.zero_add] at this
   exact this
 · have hB1 : Blk w g 118 ((gR l).take (p * 5) ++ gC (l[p]) ++ ((gR l).drop ((p + 1) * 5) ++ rest)) := by
    rw [← List.append_assoc, ← e1]; exact hB0
   have hB2 := Blk.setCells (gC x) hB1 rfl
   rw [ht] at hB2
   rw [e2]
   refine Sl.owns_mk hB (rest := rest) (by rw [List.append_assoc _ _ rest]; exact hB2) ?_ hnc hcm ?_
   · rw [List.length_append, List.length_append, ht, List.length_drop, gR_len, gC_length]; omega
   · rw [List.length_append, List.length_append, ht, List.length_drop, gC_length]
     rw [List.length_append] at hlen2
     rw [gR_len] at hlen2 ⊢
     omega
theorem listing_slice1 (x : Lst) (W : World) : (Instr.buildSlice 111 1 #[(0, .agg (gC x).toArray)]).run Tryz.prog W = .ok (.slice (some ⟨W.heap.size, 0, none⟩) 1 1) (W.alloc (.cells (gC x).toArray 118)) := by kernel_rfl

set_option maxRecDepth 20000 in
set_option maxHeartbeats 4000000 in
theorem set_key (K : Nat → Prop) (D : Dir) (la : Option Addr) (ln lc : Nat) (ra : Option Addr) (rn rc : Nat) (x : Lst) (hx : OkG x) (w : World) (HT : Tabs w) (H : DM K w D la ln lc ra rn rc) (hk : keyOk D.priv = false) :
 Calls Tryz.prog 128 #[.agg (dirC D.priv la ln lc ra rn rc).toArray, .agg (gC x).toArray] w (fun e w' => e = .returned (.tuple #[.agg (dirC 0 none 0 0 none 0 0).toArray, .int .i64 50]) ∧ Below w.heap.size w w') := by
 suffices hh : ∀ X : Ending → World → Prop, (∀ W9, Below w.heap.size w W9 → X (.returned (.tuple #[.agg (dirC 0 none 0 0 none 0 0).toArray, .int .i64 50])) W9) → Calls Tryz.prog 128 #[.agg (dirC D.priv la ln lc ra rn rc).toArray, .agg (gC x).toArray] w X from hh _ (fun W9 h => ⟨rfl, h⟩)
 intro X hX0
 have hX := Lib.hid hX0
 clear hX0
 have HT' := Lib.hid HT; have hgs := Lib.hid H.gs; have hqs := Lib.hid H.qs; have hpr := Lib.hid H.pr; have hx' := Lib.hid hx
 obtain ⟨tb, htb⟩ : ∃ tb, Hid (w.heap.size = tb) := ⟨_, rfl⟩
 have hpv := Lib.hid (private_any D.priv)
 have hck := Lib.hid (dcheck_any K la ln lc D.ls)
 have hln : Hid (D.ls.length = ln) := RS.len H.gs
 have lnx : (ln : Int) ≤ 9223372036854775807 := by have := RS.le H.gs; have := RS.max H.gs; omega
 clear HT H hx
 go_enter Tryz.func128, Tryz.ntmps128
 go_upto_region 1 with fail
 rw [htb.out]
 generalize hW : World.alloc _ _ = W
 have hB : Hid (Blk W tb 113 (dirC D.priv la ln lc ra rn rc)) := by rw [← hW, ← htb.out]; exact ((Blk.new w _ (dirC D.priv la ln lc ra rn rc)).alloc _).alloc _
 have hG : Hid (Blk W (tb + 1) 118 (gC x)) := by
  rw [← hW, ← htb.out]
  have := (Blk.new (w.alloc (.cells (dirC D.priv la ln lc ra rn rc).toArray 113)) 118 (gC x)).alloc (.cells (dirC 0 none 0 0 none 0 0).toArray 113)
  rwa [World.size_alloc] at this
 have hZ : Hid (Blk W (tb + 1 + 1) 113 (dirC 0 none 0 0 none 0 0)) := by
  rw [← hW, ← htb.out]
  have := Blk.new ((w.alloc (.cells (dirC D.priv la ln lc ra rn rc).toArray 113)).alloc (.cells (gC x).toArray 118)) 113 (dirC 0 none 0 0 none 0 0)
  rwa [World.size_alloc, World.size_alloc] at this
 have hb : Hid (Below w.heap.size w W) := by rw [← hW]; exact (((Below.refl _ w).alloc (Nat.le_refl _) _).alloc (by simp) _).alloc (by simp; omega) _
 clear hW
 have c0 := hB.out.at_ (i := 0) (x := .int .i64 D.priv) rfl
 go_wp2_with fail
 refine (hpv.out _).mono ?_
 rintro e wx ⟨rfl, hwx⟩
 rw [hwx]
 clear hwx wx
 rw [hk]
 have hbv := hb; have hZv := hZ
 clear hb hZ hB hG c0
 obtain ⟨W9, hP⟩ := put_row (ty := 113) hZv.out (x := dirC 0 none 0 0 none 0 0) rfl sizeDr (by intro u hu; simp only [dirC, List.mem_cons, List.not_mem_nil, or_false] at hu; rcases hu with rfl | rfl | rfl <;> rfl)
 have hbk := Lib.hid hP.blk
 have hfin := Lib.hid (hX.out _ (below_grown hbv.out hP.grown hbv.out.size (by have := htb.out; omega)))
 have hP' := Lib.hid hP
 clear hP hX
 obtain ⟨z, hz⟩ : ∃ z, Hid (dirC 0 none 0 0 none 0 0 = z) := ⟨_, rfl⟩
 have hzr := Lib.hid hZv.out.range
 have hzi : Hid ((Tryz.prog.info? 113).map (·.size) = some (dirC 0 none 0 0 none 0 0).length) := sizeDr
 rw [hz.out] at hP' hzr hzi hbk hfin
 clear hZv hbv
 go_wp2_with (first
  | (refine wpList_load_mid (by rfl) 113 (.tmp 4) (by rfl) (tb + 1 + 1) 0 (by rfl) z _ hzr.out Tryz.underlying113 (by rfl) hzi.out ?_)
   | (refine wpList_store_mid (by rfl) 113 (.tmp 4) (.tmp 14) (by rfl) (tb + 1 + 1) 0 z.toArray (by rfl) (by rfl) hP'.out.there hP'.out.info (by simpa using hP'.out.one) ?_
      generalize hWq : World.setCells _ _ _ _ = Wa
      obtain rfl : W9 = Wa := by rw [← hWq]; exact hP'.out.eq
      clear hWq))
 refine ret_cell_tmp (p := 4) (u := 5) rfl hbk.out Tryz.underlying113 rfl hzi.out rfl rfl rfl ?_
 exact hfin.out

set_option maxRecDepth 20000 in
set_option maxHeartbeats 4000000 in
theorem set_chk (K : Nat → Prop) (D : Dir) (la : Option Addr) (ln lc : Nat) (ra : Option Addr) (rn rc : Nat) (x : Lst) (hx : OkG x) (w : World) (HT : Tabs w) (H : DM K w D la ln lc ra rn rc) (hk : keyOk D.priv = true) (hc : Go.Dr.chkL D.ls = false) :
 Calls Tryz.prog 128 #[.agg (dirC D.priv la ln lc ra rn rc).toArray, .agg (gC x).toArray] w (fun e w' => e = .returned (.tuple #[.agg (dirC 0 none 0 0 none 0 0).toArray, .int .i64 350]) ∧ Below w.heap.size w w') := by
 suffices hh : ∀ X : Ending → World → Prop, (∀ W9, Below w.heap.size w W9 → X (.returned (.tuple #[.agg (dirC 0 none 0 0 none 0 0).toArray, .int .i64 350])) W9) → Calls Tryz.prog 128 #[.agg (dirC D.priv la ln lc ra rn rc).toArray, .agg (gC x).toArray] w X from hh _ (fun W9 h => ⟨rfl, h⟩)
 intro X hX0
 have hX := Lib.hid hX0
 clear hX0
 have HT' := Lib.hid HT; have hgs := Lib.hid H.gs; have hqs := Lib.hid H.qs; have hpr := Lib.hid H.pr; have hx' := Lib.hid hx
 obtain ⟨tb, htb⟩ : ∃ tb, Hid (w.heap.size = tb) := ⟨_, rfl⟩
 have hpv := Lib.hid (private_any D.priv)
 have hck := Lib.hid (dcheck_any K la ln lc D.ls)
 have hln : Hid (D.ls.length = ln) := RS.len H.gs
 have lnx : (ln : Int) ≤ 9223372036854775807 := by have := RS.le H.gs; have := RS.max H.gs; omega
 clear HT H hx
 go_enter Tryz.func128, Tryz.ntmps128
 go_upto_region 1 with fail
 rw [htb.out]
 generalize hW : World.alloc _ _ = W
 have hB : Hid (Blk W tb 113 (dirC D.priv la ln lc ra rn rc)) := by rw [← hW, ← htb.out]; exact ((Blk.new w _ (dirC D.priv la ln lc ra rn rc)).alloc _).alloc _
 have hG : Hid (Blk W (tb + 1) 118 (gC x)) := by
  rw [← hW, ← htb.out]
  have := (Blk.new (w.alloc (.cells (dirC D.priv la ln lc ra rn rc).toArray 113)) 118 (gC x)).alloc (.cells (dirC 0 none 0 0 none 0 0).toArray 113)
  rwa [World.size_alloc] at this
 have hZ : Hid (Blk W (tb + 1 + 1) 113 (dirC 0 none 0 0 none 0 0)) := by
  rw [← hW, ← htb.out]
  have := Blk.new ((w.alloc (.cells (dirC D.priv la ln lc ra rn rc).toArray 113)).alloc (.cells (gC x).toArray 118)) 113 (dirC 0 none 0 0 none 0 0)
  rwa [World.size_alloc, World.size_alloc] at this
 have hb : Hid (Below w.heap.size w W) := by rw [← hW]; exact (((Below.refl _ w).alloc (Nat.le_refl _) _).alloc (by simp) _).alloc (by simp; omega) _
 clear hW
 have c0 := hB.out.at_ (i := 0) (x := .int .i64 D.priv) rfl
 go_wp2_with fail
 refine (hpv.out _).mono ?_
 rintro e wx ⟨rfl, hwx⟩
 rw [hwx]
 clear hwx wx
 rw [hk]
 have c1 := hB.out.at_ (i := 1) (x := .slice la ln lc) rfl
 go_wp2_with fail
 refine (hck.out _ (hgs.out.below hb.out)).mono ?_
 rintro e w1 ⟨rfl, hb1⟩
 have hB1 := Lib.hid (hB.out.below hb1 hB.out.lt)
 have hG1 := Lib.hid (hG.out.below hb1 hG.out.lt)
 have hZ1 := Lib.hid (hZ.out.below hb1 hZ.out.lt)
 have hb1' := Lib.hid (hb.out.trans (hb1.mono hb.out.size))
 clear hb1 hB hG hZ hb c0 c1
 rw [hc]
 have hbv := hb1'; have hZv := hZ1
 clear hb1' hZ1 hB1 hG1
 rw [if_neg (by simp)]
 obtain ⟨W9, hP⟩ := put_row (ty := 113) hZv.out (x := dirC 0 none 0 0 none 0 0) rfl sizeDr (by intro u hu; simp only [dirC, List.mem_cons, List.not_mem_nil, or_false] at hu; rcases hu with rfl | rfl | rfl <;> rfl)
 have hbk := Lib.hid hP.blk
 have hfin := Lib.hid (hX.out _ (below_grown hbv.out hP.grown hbv.out.size (by have := htb.out; omega)))
 have hP' := Lib.hid hP
 clear hP hX
 obtain ⟨z, hz⟩ : ∃ z, Hid (dirC 0 none 0 0 none 0 0 = z) := ⟨_, rfl⟩
 have hzr := Lib.hid hZv.out.range
 have hzi : Hid ((Tryz.prog.info? 113).map (·.size) = some (dirC 0 none 0 0 none 0 0).length) := sizeDr
 rw [hz.out] at hP' hzr hzi hbk hfin
 clear hZv hbv
 go_wp2_with (first
  | (refine wpList_load_mid (by rfl) 113 (.tmp 4) (by rfl) (tb + 1 + 1) 0 (by rfl) z _ hzr.out Tryz.underlying113 (by rfl) hzi.out ?_)
   | (refine wpList_store_mid (by rfl) 113 (.tmp 4) (.tmp 20) (by rfl) (tb + 1 + 1) 0 z.toArray (by rfl) (by rfl) hP'.out.there hP'.out.info (by simpa using hP'.out.one) ?_
      generalize hWq : World.setCells _ _ _ _ = Wa
      obtain rfl : W9 = Wa := by rw [← hWq]; exact hP'.out.eq
      clear hWq))
 refine ret_cell_tmp (p := 4) (u := 5) rfl hbk.out Tryz.underlying113 rfl hzi.out rfl rfl rfl ?_
 exact hfin.out

set_option maxRecDepth 20000 in
set_option maxHeartbeats 4000000 in
theorem set_unfit (K : Nat → Prop) (D : Dir) (la : Option Addr) (ln lc : Nat) (ra : Option Addr) (rn rc : Nat) (x : Lst) (hx : OkG x) (w : World) (HT : Tabs w) (H : DM K w D la ln lc ra rn rc) (hk : keyOk D.priv = true) (hc : Go.Dr.chkL D.ls = true) (hf : Go.Dr.fitsB x = false) :
 Calls Tryz.prog 128 #[.agg (dirC D.priv la ln lc ra rn rc).toArray, .agg (gC x).toArray] w (fun e w' => e = .returned (.tuple #[.agg (dirC 0 none 0 0 none 0 0).toArray, .int .i64 350]) ∧ Below w.heap.size w w') := by
 suffices hh : ∀ X : Ending → World → Prop, (∀ W9, Below w.heap.size w W9 → X (.returned (.tuple #[.agg (dirC 0 none 0 0 none 0 0).toArray, .int .i64 350])) W9) → Calls Tryz.prog 128 #[.agg (dirC D.priv la ln lc ra rn rc).toArray, .agg (gC x).toArray] w X from hh _ (fun W9 h => ⟨rfl, h⟩)
 intro X hX0
 have hX := Lib.hid hX0
 clear hX0
 have HT' := Lib.hid HT; have hgs := Lib.hid H.gs; have hqs := Lib.hid H.qs; have hpr := Lib.hid H.pr; have hx' := Lib.hid hx
 obtain ⟨tb, htb⟩ : ∃ tb, Hid (w.heap.size = tb) := ⟨_, rfl⟩
 have hpv := Lib.hid (private_any D.priv)
 have hck := Lib.hid (dcheck_any K la ln lc D.ls)
 have hln : Hid (D.ls.length = ln) := RS.len H.gs
 have lnx : (ln : Int) ≤ 9223372036854775807 := by have := RS.le H.gs; have := RS.max H.gs; omega
 clear HT H hx
 go_enter Tryz.func128, Tryz.ntmps128
 go_upto_region 1 with fail
 rw [htb.out]
 generalize hW : World.alloc _ _ = W
 have hB : Hid (Blk W tb 113 (dirC D.priv la ln lc ra rn rc)) := by rw [← hW, ← htb.out]; exact ((Blk.new w _ (dirC D.priv la ln lc ra rn rc)).alloc _).alloc _
 have hG : Hid (Blk W (tb + 1) 118 (gC x)) := by
  rw [← hW, ← htb.out]
  have := (Blk.new (w.alloc (.cells (dirC D.priv la ln lc ra rn rc).toArray 113)) 118 (gC x)).alloc (.cells (dirC 0 none 0 0 none 0 0).toArray 113)
  rwa [World.size_alloc] at this
 have hZ : Hid (Blk W (tb + 1 + 1) 113 (dirC 0 none 0 0 none 0 0)) := by
  rw [← hW, ← htb.out]
  have := Blk.new ((w.alloc (.cells (dirC D.priv la ln lc ra rn rc).toArray 113)).alloc (.cells (gC x).toArray 118)) 113 (dirC 0 none 0 0 none 0 0)
  rwa [World.size_alloc, World.size_alloc] at this
 have hb : Hid (Below w.heap.size w W) := by rw [← hW]; exact (((Below.refl _ w).alloc (Nat.le_refl _) _).alloc (by simp) _).alloc (by simp; omega) _
 clear hW
 have c0 := hB.out.at_ (i := 0) (x := .int .i64 D.priv) rfl
 go_wp2_with fail
 refine (hpv.out _).mono ?_
 rintro e wx ⟨rfl, hwx⟩
 rw [hwx]
 clear hwx wx
 rw [hk]
 have c1 := hB.out.at_ (i := 1) (x := .slice la ln lc) rfl
 go_wp2_with fail
 refine (hck.out _ (hgs.out.below hb.out)).mono ?_
 rintro e w1 ⟨rfl, hb1⟩
 have hB1 := Lib.hid (hB.out.below hb1 hB.out.lt)
 have hG1 := Lib.hid (hG.out.below hb1 hG.out.lt)
 have hZ1 := Lib.hid (hZ.out.below hb1 hZ.out.lt)
 have hb1' := Lib.hid (hb.out.trans (hb1.mono hb.out.size))
 clear hb1 hB hG hZ hb c0 c1
 rw [hc]
 rw [if_pos rfl]
 have d1 := hB1.out.at_ (i := 1) (x := .slice la ln lc) rfl
 have g0 := hG1.out.at_ (i := 0) (x := .int .i64 x.dev) rfl
 have hvs : Hid (Go.Dr.oldV D.ls x.dev = (Go.Dr.ofX D.ls x.dev).vers ∧ 0 ≤ (Go.Dr.ofX D.ls x.dev).vers ∧ (Go.Dr.ofX D.ls x.dev).vers ≤ 1048576) := by
  unfold Go.Dr.oldV Go.Dr.ofX
  cases e : Go.Dr.ofL D.ls x.dev with
  | none => exact ⟨rfl, by show (0 : Int) ≤ 0; decide, by show (0 : Int) ≤ 1048576; decide⟩
  | some y =>
   obtain ⟨j, hj⟩ := List.mem_iff_getElem?.1 (List.mem_of_find?_eq_some e)
   have := Go.Dr.fits_vers (Go.Dr.chk_lt hc j y hj).2
   exact ⟨rfl, by show 0 ≤ y.vers; omega, this.2⟩
 have hox : Hid (OkG (Go.Dr.ofX D.ls x.dev)) := ofX_ok hgs.out hx'.out.dev
 obtain ⟨y, hy⟩ : ∃ y, Hid (Go.Dr.ofX D.ls x.dev = y) := ⟨_, rfl⟩
 obtain ⟨q, hq⟩ : ∃ q, Hid ((Go.Dr.ofL D.ls x.dev).isSome = q) := ⟨_, rfl⟩
 obtain ⟨ry, hry⟩ : ∃ ry, Hid (gC y = ry) := ⟨_, rfl⟩
 have hof : Hid (Calls Tryz.prog 164 #[.slice la ln lc, .int .i64 x.dev] w1 (fun e w' => e = .returned (.tuple #[.agg ry.toArray, .bool q]) ∧ Below w1.heap.size w1 w')) := by
  have h := of_any K la ln lc D.ls x.dev w1 (hgs.out.below hb1'.out)
  unfold OfPost at h
  rw [hy.out, hq.out, hry.out] at h
  exact h
 rw [hy.out] at hvs hox
 go_wp2_with fail
 refine hof.out.mono ?_
 rintro e w2 ⟨rfl, hb2⟩
 obtain ⟨W3, hP, hb3⟩ := box_g w2 y
 have hb23 := hb2.trans (hb3.mono hb2.size)
 have hB3 := Lib.hid (hB1.out.below hb23 hB1.out.lt)
 have hG3 := Lib.hid (hG1.out.below hb23 hG1.out.lt)
 have hZ3 := Lib.hid (hZ1.out.below hb23 hZ1.out.lt)
 have hb3' := Lib.hid (hb1'.out.trans (hb23.mono hb1'.out.size))
 obtain ⟨xb, hxb⟩ : ∃ xb, Hid (w2.heap.size = xb) := ⟨_, rfl⟩
 have hxt : Hid (tb + 1 + 1 < xb) := by have := hZ1.out.lt; have := hb2.size; have := hxb.out; show _ < _; omega
 have hP' := Lib.hid hP
 have hY3 := Lib.hid hP.blk
 rw [hxb.out] at hP' hY3
 have hgr := Lib.hid hG3.out.range
 have hgi : Hid ((Tryz.prog.info? 118).map (·.size) = some (gC x).length) := sizeG
 have hft := Lib.hid (fits_any x W3)
 obtain ⟨rx, hrx⟩ : ∃ rx, Hid (gC x = rx) := ⟨_, rfl⟩
 rw [hrx.out] at hgr hgi hft
 rw [hry.out] at hP'
 clear hP hb2 hb3 hb23 hB1 hG1 hZ1 hb1' d1 g0 hof hck
 obtain ⟨vx, hvx⟩ : ∃ v, Hid (x.vers = v) := ⟨_, rfl⟩
 obtain ⟨vy, hvy⟩ : ∃ v, Hid (y.vers = v) := ⟨_, rfl⟩
 rw [hvy.out] at hvs
 have vy0 := hvs.out.2.1
 have vy1 := hvs.out.2.2
 rw [hf] at hft
 obtain ⟨z, hz⟩ : ∃ z, Hid (dirC 0 none 0 0 none 0 0 = z) := ⟨_, rfl⟩
 go_wp2_with (first
  | (rw [hxb.out]; refine wpList_store_mid (by rfl) 118 (.tmp 6) (.tmp 28) (by rfl) xb 0 ry.toArray (by rfl) (by rfl) hP'.out.there hP'.out.info (by simpa using hP'.out.one) ?_
     generalize hWq : World.setCells _ _ _ _ = Wa
     obtain rfl : W3 = Wa := by rw [← hWq]; exact hP'.out.eq
     clear hWq)
      | (refine wpList_load_mid (by rfl) 118 (.tmp 3) (by rfl) (tb + 1) 0 (by rfl) rx _ hgr.out Tryz.underlying118 (by rfl) hgi.out ?_)
      | (refine hft.out.mono ?_
         rintro e w4 ⟨rfl, hb4⟩
         have hG4 := hG3.out.below hb4 hG3.out.lt
         have hY4 := hY3.out.below hb4 hY3.out.lt
         have hB4 := hB3.out.below hb4 hB3.out.lt
         have hZ4 := hZ3.out.below hb4 hZ3.out.lt
         have hb4' := hb3'.out.trans (hb4.mono hb3'.out.size)
         have k3 := hG4.at_ (i := 3) (x := .int .i64 vx) (by rw [← hvx.out]; rfl)
         have k6 := hY4.at_ (i := 3) (x := .int .i64 vy) (by rw [← hvy.out]; rfl)
         obtain ⟨W9, hP9⟩ := put_row (ty := 113) hZ4 (x := dirC 0 none 0 0 none 0 0) rfl sizeDr (by intro u hu; simp only [dirC, List.mem_cons, List.not_mem_nil, or_false] at hu; rcases hu with rfl | rfl | rfl <;> rfl)
         have hbk := Lib.hid hP9.blk
         have hfin := Lib.hid (hX.out _ (below_grown hb4' hP9.grown hb4'.size (by have := htb.out; omega)))
         have hP9' := Lib.hid hP9
         have hzr := Lib.hid hZ4.range
         have hzi : Hid ((Tryz.prog.info? 113).map (·.size) = some (dirC 0 none 0 0 none 0 0).length) := sizeDr
         rw [hz.out] at hP9' hzr hzi hbk hfin
         clear hP9 hZ4 hb4' hB4)
      | (refine wpList_load_mid (by rfl) 113 (.tmp 4) (by rfl) (tb + 1 + 1) 0 (by rfl) z _ hzr.out Tryz.underlying113 (by rfl) hzi.out ?_)
      | (refine wpList_store_mid (by rfl) 113 (.tmp 4) (.tmp 41) (by rfl) (tb + 1 + 1) 0 z.toArray (by rfl) (by rfl) hP9'.out.there hP9'.out.info (by simpa using hP9'.out.one) ?_
         generalize hWq : World.setCells _ _ _ _ = Wa
         obtain rfl : W9 = Wa := by rw [← hWq]; exact hP9'.out.eq
         clear hWq))
 refine ret_cell_tmp (p := 4) (u := 5) rfl hbk.out Tryz.underlying113 rfl hzi.out rfl rfl rfl ?_
 exact hfin.out

set_option maxRecDepth 20000 in
set_option maxHeartbeats 4000000 in
theorem set_old (K : Nat → Prop) (D : Dir) (la : Option Addr) (ln lc : Nat) (ra : Option Addr) (rn rc : Nat) (x : Lst) (hx : OkG x) (w : World) (HT : Tabs w) (H : DM K w D la ln lc ra rn rc) (hk : keyOk D.priv = true) (hc : Go.Dr.chkL D.ls = true) (hf : Go.Dr.fitsB x = true) (hv : x.vers ≠ Go.Dr.oldV D.ls x.dev + 1) :
 Calls Tryz.prog 128 #[.agg (dirC D.priv la ln lc ra rn rc).toArray, .agg (gC x).toArray] w (fun e w' => e = .returned (.tuple #[.agg (dirC 0 none 0 0 none 0 0).toArray, .int .i64 350]) ∧ Below w.heap.size w w') := by
 suffices hh : ∀ X : Ending → World → Prop, (∀ W9, Below w.heap.size w W9 → X (.returned (.tuple #[.agg (dirC 0 none 0 0 none 0 0).toArray, .int .i64 350])) W9) → Calls Tryz.prog 128 #[.agg (dirC D.priv la ln lc ra rn rc).toArray, .agg (gC x).toArray] w X from hh _ (fun W9 h => ⟨rfl, h⟩)
 intro X hX0
 have hX := Lib.hid hX0
 clear hX0
 have HT' := Lib.hid HT; have hgs := Lib.hid H.gs; have hqs := Lib.hid H.qs; have hpr := Lib.hid H.pr; have hx' := Lib.hid hx
 obtain ⟨tb, htb⟩ : ∃ tb, Hid (w.heap.size = tb) := ⟨_, rfl⟩
 have hpv := Lib.hid (private_any D.priv)
 have hck := Lib.hid (dcheck_any K la ln lc D.ls)
 have hln : Hid (D.ls.length = ln) := RS.len H.gs
 have lnx : (ln : Int) ≤ 9223372036854775807 := by have := RS.le H.gs; have := RS.max H.gs; omega
 clear HT H hx
 go_enter Tryz.func128, Tryz.ntmps128
 go_upto_region 1 with fail
 rw [htb.out]
 generalize hW : World.alloc _ _ = W
 have hB : Hid (Blk W tb 113 (dirC D.priv la ln lc ra rn rc)) := by rw [← hW, ← htb.out]; exact ((Blk.new w _ (dirC D.priv la ln lc ra rn rc)).alloc _).alloc _
 have hG : Hid (Blk W (tb + 1) 118 (gC x)) := by
  rw [← hW, ← htb.out]
  have := (Blk.new (w.alloc (.cells (dirC D.priv la ln lc ra rn rc).toArray 113)) 118 (gC x)).alloc (.cells (dirC 0 none 0 0 none 0 0).toArray 113)
  rwa [World.size_alloc] at this
 have hZ : Hid (Blk W (tb + 1 + 1) 113 (dirC 0 none 0 0 none 0 0)) := by
  rw [← hW, ← htb.out]
  have := Blk.new ((w.alloc (.cells (dirC D.priv la ln lc ra rn rc).toArray 113)).alloc (.cells (gC x).toArray 118)) 113 (dirC 0 none 0 0 none 0 0)
  rwa [World.size_alloc, World.size_alloc] at this
 have hb : Hid (Below w.heap.size w W) := by rw [← hW]; exact (((Below.refl _ w).alloc (Nat.le_refl _) _).alloc (by simp) _).alloc (by simp; omega) _
 clear hW
 have c0 := hB.out.at_ (i := 0) (x := .int .i64 D.priv) rfl
 go_wp2_with fail
 refine (hpv.out _).mono ?_
 rintro e wx ⟨rfl, hwx⟩
 rw [hwx]
 clear hwx wx
 rw [hk]
 have c1 := hB.out.at_ (i := 1) (x := .slice la ln lc) rfl
 go_wp2_with fail
 refine (hck.out _ (hgs.out.below hb.out)).mono ?_
 rintro e w1 ⟨rfl, hb1⟩
 have hB1 := Lib.hid (hB.out.below hb1 hB.out.lt)
 have hG1 := Lib.hid (hG.out.below hb1 hG.out.lt)
 have hZ1 := Lib.hid (hZ.out.below hb1 hZ.out.lt)
 have hb1' := Lib.hid (hb.out.trans (hb1.mono hb.out.size))
 clear hb1 hB hG hZ hb c0 c1
 rw [hc]
 rw [if_pos rfl]
 have d1 := hB1.out.at_ (i := 1) (x := .slice la ln lc) rfl
 have g0 := hG1.out.at_ (i := 0) (x := .int .i64 x.dev) rfl
 have hvs : Hid (Go.Dr.oldV D.ls x.dev = (Go.Dr.ofX D.ls x.dev).vers ∧ 0 ≤ (Go.Dr.ofX D.ls x.dev).vers ∧ (Go.Dr.ofX D.ls x.dev).vers ≤ 1048576) := by
  unfold Go.Dr.oldV Go.Dr.ofX
  cases e : Go.Dr.ofL D.ls x.dev with
  | none => exact ⟨rfl, by show (0 : Int) ≤ 0; decide, by show (0 : Int) ≤ 1048576; decide⟩
  | some y =>
   obtain ⟨j, hj⟩ := List.mem_iff_getElem?.1 (List.mem_of_find?_eq_some e)
   have := Go.Dr.fits_vers (Go.Dr.chk_lt hc j y hj).2
   exact ⟨rfl, by show 0 ≤ y.vers; omega, this.2⟩
 have hox : Hid (OkG (Go.Dr.ofX D.ls x.dev)) := ofX_ok hgs.out hx'.out.dev
 obtain ⟨y, hy⟩ : ∃ y, Hid (Go.Dr.ofX D.ls x.dev = y) := ⟨_, rfl⟩
 obtain ⟨q, hq⟩ : ∃ q, Hid ((Go.Dr.ofL D.ls x.dev).isSome = q) := ⟨_, rfl⟩
 obtain ⟨ry, hry⟩ : ∃ ry, Hid (gC y = ry) := ⟨_, rfl⟩
 have hof : Hid (Calls Tryz.prog 164 #[.slice la ln lc, .int .i64 x.dev] w1 (fun e w' => e = .returned (.tuple #[.agg ry.toArray, .bool q]) ∧ Below w1.heap.size w1 w')) := by
  have h := of_any K la ln lc D.ls x.dev w1 (hgs.out.below hb1'.out)
  unfold OfPost at h
  rw [hy.out, hq.out, hry.out] at h
  exact h
 rw [hy.out] at hvs hox
 go_wp2_with fail
 refine hof.out.mono ?_
 rintro e w2 ⟨rfl, hb2⟩
 obtain ⟨W3, hP, hb3⟩ := box_g w2 y
 have hb23 := hb2.trans (hb3.mono hb2.size)
 have hB3 := Lib.hid (hB1.out.below hb23 hB1.out.lt)
 have hG3 := Lib.hid (hG1.out.below hb23 hG1.out.lt)
 have hZ3 := Lib.hid (hZ1.out.below hb23 hZ1.out.lt)
 have hb3' := Lib.hid (hb1'.out.trans (hb23.mono hb1'.out.size))
 obtain ⟨xb, hxb⟩ : ∃ xb, Hid (w2.heap.size = xb) := ⟨_, rfl⟩
 have hxt : Hid (tb + 1 + 1 < xb) := by have := hZ1.out.lt; have := hb2.size; have := hxb.out; show _ < _; omega
 have hP' := Lib.hid hP
 have hY3 := Lib.hid hP.blk
 rw [hxb.out] at hP' hY3
 have hgr := Lib.hid hG3.out.range
 have hgi : Hid ((Tryz.prog.info? 118).map (·.size) = some (gC x).length) := sizeG
 have hft := Lib.hid (fits_any x W3)
 obtain ⟨rx, hrx⟩ : ∃ rx, Hid (gC x = rx) := ⟨_, rfl⟩
 rw [hrx.out] at hgr hgi hft
 rw [hry.out] at hP'
 clear hP hb2 hb3 hb23 hB1 hG1 hZ1 hb1' d1 g0 hof hck
 obtain ⟨vx, hvx⟩ : ∃ v, Hid (x.vers = v) := ⟨_, rfl⟩
 obtain ⟨vy, hvy⟩ : ∃ v, Hid (y.vers = v) := ⟨_, rfl⟩
 rw [hvy.out] at hvs
 have vy0 := hvs.out.2.1
 have vy1 := hvs.out.2.2
 rw [hf] at hft
 have hne : (vx == vy + 1) = false := by
  rw [hvs.out.1, hvx.out] at hv
  simpa using hv
 clear hv
 obtain ⟨z, hz⟩ : ∃ z, Hid (dirC 0 none 0 0 none 0 0 = z) := ⟨_, rfl⟩
 go_wp2_with (first
  | (rw [hxb.out]; refine wpList_store_mid (by rfl) 118 (.tmp 6) (.tmp 28) (by rfl) xb 0 ry.toArray (by rfl) (by rfl) hP'.out.there hP'.out.info (by simpa using hP'.out.one) ?_
     generalize hWq : World.setCells _ _ _ _ = Wa
     obtain rfl : W3 = Wa := by rw [← hWq]; exact hP'.out.eq
     clear hWq)
      | (refine wpList_load_mid (by rfl) 118 (.tmp 3) (by rfl) (tb + 1) 0 (by rfl) rx _ hgr.out Tryz.underlying118 (by rfl) hgi.out ?_)
      | (refine hft.out.mono ?_
         rintro e w4 ⟨rfl, hb4⟩
         have hG4 := hG3.out.below hb4 hG3.out.lt
         have hY4 := hY3.out.below hb4 hY3.out.lt
         have hB4 := hB3.out.below hb4 hB3.out.lt
         have hZ4 := hZ3.out.below hb4 hZ3.out.lt
         have hb4' := hb3'.out.trans (hb4.mono hb3'.out.size)
         have k3 := hG4.at_ (i := 3) (x := .int .i64 vx) (by rw [← hvx.out]; rfl)
         have k6 := hY4.at_ (i := 3) (x := .int .i64 vy) (by rw [← hvy.out]; rfl)
         obtain ⟨W9, hP9⟩ := put_row (ty := 113) hZ4 (x := dirC 0 none 0 0 none 0 0) rfl sizeDr (by intro u hu; simp only [dirC, List.mem_cons, List.not_mem_nil, or_false] at hu; rcases hu with rfl | rfl | rfl <;> rfl)
         have hbk := Lib.hid hP9.blk
         have hfin := Lib.hid (hX.out _ (below_grown hb4' hP9.grown hb4'.size (by have := htb.out; omega)))
         have hP9' := Lib.hid hP9
         have hzr := Lib.hid hZ4.range
         have hzi : Hid ((Tryz.prog.info? 113).map (·.size) = some (dirC 0 none 0 0 none 0 0).length) := sizeDr
         rw [hz.out] at hP9' hzr hzi hbk hfin
         clear hP9 hZ4 hb4' hB4)
      | (refine wpList_load_mid (by rfl) 113 (.tmp 4) (by rfl) (tb + 1 + 1) 0 (by rfl) z _ hzr.out Tryz.underlying113 (by rfl) hzi.out ?_)
      | (refine wpList_store_mid (by rfl) 113 (.tmp 4) (.tmp 41) (by rfl) (tb + 1 + 1) 0 z.toArray (by rfl) (by rfl) hP9'.out.there hP9'.out.info (by simpa using hP9'.out.one) ?_
         generalize hWq : World.setCells _ _ _ _ = Wa
         obtain rfl : W9 = Wa := by rw [← hWq]; exact hP9'.out.eq
         clear hWq))
 refine ret_cell_tmp (p := 4) (u := 5) rfl hbk.out Tryz.underlying113 rfl hzi.out rfl rfl rfl ?_
 exact hfin.out

end Go.Proofs.YtlpgjdlkjahdgaaGreatDoor
namespace Go.Proofs.YtlpgjdlkjahdgaaGreatDoor
open Go.RowKit Go.Mem
open Go.Dr (Lst Rt Dir)

theorem hasL_lt {dev : Int} {l : List Lst} (h : Go.Dr.hasL dev l = true) : Go.Dr.posL dev l < l.length := by
 unfold Go.Dr.hasL at h
 cases e : l[Go.Dr.posL dev l]? with
 | none => rw [e] at h; cases h
 | some y => exact (List.getElem?_eq_some_iff.1 e).1

set_option maxRecDepth 20000 in
set_option maxHeartbeats 8000000 in
theorem set_ok (K : Nat → Prop) (D : Dir) (la : Option Addr) (ln lc : Nat) (ra : Option Addr) (rn rc : Nat) (x : Lst) (hx : OkG x) (w : World) (HT : Tabs w) (H : DM K w D la ln lc ra rn rc) (hk : keyOk D.priv = true) (hc : Go.Dr.chkL D.ls = true) (hf : Go.Dr.fitsB x = true) (hv : x.vers = Go.Dr.oldV D.ls x.dev + 1) :
 Calls Tryz.prog 128 #[.agg (dirC D.priv la ln lc ra rn rc).toArray, .agg (gC x).toArray] w (SetPost (Go.Dr.setD 4 D x) w) := by
 suffices hh : ∀ X : Ending → World → Prop, (∀ e W9, SetPost (Go.Dr.setD 4 D x) w e W9 → X e W9) → Calls Tryz.prog 128 #[.agg (dirC D.priv la ln lc ra rn rc).toArray, .agg (gC x).toArray] w X from hh _ (fun e W9 h => h)
 intro X hX0
 have hX := Lib.hid hX0
 clear hX0
 have hset : Hid (Go.Dr.setD 4 D x = Go.Dr.tickD 4 ⟨D.priv, Go.Dr.insL x D.ls, D.rs⟩) := by
  show _ = _
  unfold Go.Dr.setD
  rw [if_pos hk, if_pos hc, if_pos (by rw [hf, decide_eq_true hv]; rfl)]
 have hls : Hid ((Go.Dr.setD 4 D x).2 = 0 → (Go.Dr.setD 4 D x).1.ls = Go.Dr.insL x D.ls) := fun h0 => by
  obtain ⟨E, hE⟩ : ∃ E, Go.Dr.setD 4 D x = (E, 0) := ⟨(Go.Dr.setD 4 D x).1, by rw [← h0]⟩
  obtain ⟨_, _, _, _, _, h6⟩ := Go.Dr.set_ok hE
  rw [hE, h6]
 have hpv9 : Hid ((Go.Dr.setD 4 D x).2 = 0 → (Go.Dr.setD 4 D x).1.priv = D.priv) := fun h0 => by
  obtain ⟨E, hE⟩ : ∃ E, Go.Dr.setD 4 D x = (E, 0) := ⟨(Go.Dr.setD 4 D x).1, by rw [← h0]⟩
  obtain ⟨_, _, _, _, _, h6⟩ := Go.Dr.set_ok hE
  rw [hE, h6]
 have hins := Lib.hid (Go.Dr.insL_at x hc)
 have h512 := Go.Dr.chkL_len hc
 have hrd0 := Lib.hid (GS.reads H.gs)
 have hok0 := Lib.hid (GS.oks H.gs)
 have HT' := Lib.hid HT; have hgs := Lib.hid H.gs; have hqs := Lib.hid H.qs; have hpr := Lib.hid H.pr; have hx' := Lib.hid hx
 obtain ⟨tb, htb⟩ : ∃ tb, Hid (w.heap.size = tb) := ⟨_, rfl⟩
 have hpv := Lib.hid (private_any D.priv)
 have hck := Lib.hid (dcheck_any K la ln lc D.ls)
 have hln : Hid (D.ls.length = ln) := RS.len H.gs
 have lnx : (ln : Int) ≤ 9223372036854775807 := by have := RS.le H.gs; have := RS.max H.gs; omega
 clear HT H hx
 go_enter Tryz.func128, Tryz.ntmps128
 go_upto_region 1 with fail
 rw [htb.out]
 generalize hW : World.alloc _ _ = W
 have hB : Hid (Blk W tb 113 (dirC D.priv la ln lc ra rn rc)) := by rw [← hW, ← htb.out]; exact ((Blk.new w _ (dirC D.priv la ln lc ra rn rc)).alloc _).alloc _
 have hG : Hid (Blk W (tb + 1) 118 (gC x)) := by
  rw [← hW, ← htb.out]
  have := (Blk.new (w.alloc (.cells (dirC D.priv la ln lc ra rn rc).toArray 113)) 118 (gC x)).alloc (.cells (dirC 0 none 0 0 none 0 0).toArray 113)
  rwa [World.size_alloc] at this
 have hZ : Hid (Blk W (tb + 1 + 1) 113 (dirC 0 none 0 0 none 0 0)) := by
  rw [← hW, ← htb.out]
  have := Blk.new ((w.alloc (.cells (dirC D.priv la ln lc ra rn rc).toArray 113)).alloc (.cells (gC x).toArray 118)) 113 (dirC 0 none 0 0 none 0 0)
  rwa [World.size_alloc, World.size_alloc] at this
 have hb : Hid (Below w.heap.size w W) := by rw [← hW]; exact (((Below.refl _ w).alloc (Nat.le_refl _) _).alloc (by simp) _).alloc (by simp; omega) _
 clear hW
 have c0 := hB.out.at_ (i := 0) (x := .int .i64 D.priv) rfl
 go_wp2_with fail
 refine (hpv.out _).mono ?_
 rintro e wx ⟨rfl, hwx⟩
 rw [hwx]
 clear hwx wx
 rw [hk]
 have c1 := hB.out.at_ (i := 1) (x := .slice la ln lc) rfl
 go_wp2_with fail
 refine (hck.out _ (hgs.out.below hb.out)).mono ?_
 rintro e w1 ⟨rfl, hb1⟩
 have hB1 := Lib.hid (hB.out.below hb1 hB.out.lt)
 have hG1 := Lib.hid (hG.out.below hb1 hG.out.lt)
 have hZ1 := Lib.hid (hZ.out.below hb1 hZ.out.lt)
 have hb1' := Lib.hid (hb.out.trans (hb1.mono hb.out.size))
 clear hb1 hB hG hZ hb c0 c1
 rw [hc]
 rw [if_pos rfl]
 have d1 := hB1.out.at_ (i := 1) (x := .slice la ln lc) rfl
 have g0 := hG1.out.at_ (i := 0) (x := .int .i64 x.dev) rfl
 have hvs : Hid (Go.Dr.oldV D.ls x.dev = (Go.Dr.ofX D.ls x.dev).vers ∧ 0 ≤ (Go.Dr.ofX D.ls x.dev).vers ∧ (Go.Dr.ofX D.ls x.dev).vers ≤ 1048576) := by
  unfold Go.Dr.oldV Go.Dr.ofX
  cases e : Go.Dr.ofL D.ls x.dev with
  | none => exact ⟨rfl, by show (0 : Int) ≤ 0; decide, by show (0 : Int) ≤ 1048576; decide⟩
  | some y =>
   obtain ⟨j, hj⟩ := List.mem_iff_getElem?.1 (List.mem_of_find?_eq_some e)
   have := Go.Dr.fits_vers (Go.Dr.chk_lt hc j y hj).2
   exact ⟨rfl, by show 0 ≤ y.vers; omega, this.2⟩
 have hox : Hid (OkG (Go.Dr.ofX D.ls x.dev)) := ofX_ok hgs.out hx'.out.dev
 obtain ⟨y, hy⟩ : ∃ y, Hid (Go.Dr.ofX D.ls x.dev = y) := ⟨_, rfl⟩
 obtain ⟨q, hq⟩ : ∃ q, Hid ((Go.Dr.ofL D.ls x.dev).isSome = q) := ⟨_, rfl⟩
 obtain ⟨ry, hry⟩ : ∃ ry, Hid (gC y = ry) := ⟨_, rfl⟩
 have hof : Hid (Calls Tryz.prog 164 #[.slice la ln lc, .int .i64 x.dev] w1 (fun e w' => e = .returned (.tuple #[.agg ry.toArray, .bool q]) ∧ Below w1.heap.size w1 w')) := by
  have h := of_any K la ln lc D.ls x.dev w1 (hgs.out.below hb1'.out)
  unfold OfPost at h
  rw [hy.out, hq.out, hry.out] at h
  exact h
 rw [hy.out] at hvs hox
 go_wp2_with fail
 refine hof.out.mono ?_
 rintro e w2 ⟨rfl, hb2⟩
 obtain ⟨W3, hP, hb3⟩ := box_g w2 y
 have hb23 := hb2.trans (hb3.mono hb2.size)
 have hB3 := Lib.hid (hB1.out.below hb23 hB1.out.lt)
 have hG3 := Lib.hid (hG1.out.below hb23 hG1.out.lt)
 have hZ3 := Lib.hid (hZ1.out.below hb23 hZ1.out.lt)
 have hb3' := Lib.hid (hb1'.out.trans (hb23.mono hb1'.out.size))
 obtain ⟨xb, hxb⟩ : ∃ xb, Hid (w2.heap.size = xb) := ⟨_, rfl⟩
 have hxt : Hid (tb + 1 + 1 < xb) := by have := hZ1.out.lt; have := hb2.size; have := hxb.out; show _ < _; omega
 have hP' := Lib.hid hP
 have hY3 := Lib.hid hP.blk
 rw [hxb.out] at hP' hY3
 have hgr := Lib.hid hG3.out.range
 have hgi : Hid ((Tryz.prog.info? 118).map (·.size) = some (gC x).length) := sizeG
 have hft := Lib.hid (fits_any x W3)
 obtain ⟨rx, hrx⟩ : ∃ rx, Hid (gC x = rx) := ⟨_, rfl⟩
 rw [hrx.out] at hgr hgi hft
 rw [hry.out] at hP'
 clear hP hb2 hb3 hb23 hB1 hG1 hZ1 hb1' d1 g0 hof hck
 obtain ⟨vx, hvx⟩ : ∃ v, Hid (x.vers = v) := ⟨_, rfl⟩
 obtain ⟨vy, hvy⟩ : ∃ v, Hid (y.vers = v) := ⟨_, rfl⟩
 rw [hvy.out] at hvs
 have vy0 := hvs.out.2.1
 have vy1 := hvs.out.2.2
 rw [hf] at hft
 have hne : (vx == vy + 1) = true := by
  rw [hvs.out.1, hvx.out] at hv
  simpa using hv
 have ln512 : (ln : Int) ≤ 512 := by have := hln.out; omega
 clear hv hf
 obtain ⟨dx, hdx⟩ : ∃ d, Hid (x.dev = d) := ⟨_, rfl⟩
 go_wp2_with (first
  | (rw [hxb.out]; refine wpList_store_mid (by rfl) 118 (.tmp 6) (.tmp 28) (by rfl) xb 0 ry.toArray (by rfl) (by rfl) hP'.out.there hP'.out.info (by simpa using hP'.out.one) ?_
     generalize hWq : World.setCells _ _ _ _ = Wa
     obtain rfl : W3 = Wa := by rw [← hWq]; exact hP'.out.eq
     clear hWq)
      | (refine wpList_load_mid (by rfl) 118 (.tmp 3) (by rfl) (tb + 1) 0 (by rfl) rx _ hgr.out Tryz.underlying118 (by rfl) hgi.out ?_)
      | (refine hft.out.mono ?_
         rintro e w4 ⟨rfl, hb4⟩
         have hG4 := hG3.out.below hb4 hG3.out.lt
         have hY4 := hY3.out.below hb4 hY3.out.lt
         have hB4 := hB3.out.below hb4 hB3.out.lt
         have hZ4 := hZ3.out.below hb4 hZ3.out.lt
         have hb4' := hb3'.out.trans (hb4.mono hb3'.out.size)
         have k3 := hG4.at_ (i := 3) (x := .int .i64 vx) (by rw [← hvx.out]; rfl)
         have k6 := hY4.at_ (i := 3) (x := .int .i64 vy) (by rw [← hvy.out]; rfl)
         have k1 := hB4.at_ (i := 1) (x := .slice la ln lc) rfl
         have k0 := hG4.at_ (i := 0) (x := .int .i64 dx) (by rw [← hdx.out]; rfl)))
 rw [hdx.out] at hins
 have hbf := Lib.hid (bsfG_any K la ln lc D.ls dx w4 (hgs.out.below hb4') (by omega) hc)
 obtain ⟨p, hp⟩ : ∃ p, Hid (Go.Dr.posL dx D.ls = p) := ⟨_, rfl⟩
 obtain ⟨hs, hhs⟩ : ∃ hs, Hid (Go.Dr.hasL dx D.ls = hs) := ⟨_, rfl⟩
 have hple : Hid (p ≤ ln) := by have := Go.Dr.posL_le dx D.ls; have := hp.out; have := hln.out; show _ ≤ _; omega
 have hplt : Hid (hs = true → p < ln) := fun h => by have := hasL_lt (hhs.out.trans h); have := hp.out; have := hln.out; omega
 rw [hp.out, hhs.out] at hbf hins
 refine hbf.out.mono ?_
 rintro e w5 ⟨rfl, hb5⟩
 have hB5 := Lib.hid (hB4.below hb5 hB4.lt)
 have hG5 := Lib.hid (hG4.below hb5 hG4.lt)
 have hZ5 := Lib.hid (hZ4.below hb5 hZ4.lt)
 have hb5' := Lib.hid (hb4'.trans (hb5.mono hb4'.size))
 have n1 := hB5.out.at_ (i := 1) (x := .slice la ln lc) rfl
 clear hb5 hB4 hG4 hZ4 hY4 hb4' k0 k1 k3 k6 hne hbf hY3 hB3 hG3 hZ3 hb3' hgr hft
 go_wp2_with fail
 refine (cloneG_any la ln lc (gR D.ls) w5 (hrd0.out.below hb5'.out (Nat.le_refl _)) (gR_one _) (by omega)).mono ?_
 rintro e w6 ⟨v, rfl, hown, hb6⟩
 obtain ⟨a2, c2, rfl, _, hsep⟩ := Sl.of_owns hown
 obtain ⟨B, hBe⟩ : ∃ B, Hid (w5.heap.size = B) := ⟨_, rfl⟩
 have hBx : Hid (tb + 1 + 1 < B) := by have := hZ5.out.lt; have := hBe.out; show _ < _; omega
 have hB6 := hB5.out.below hb6 hB5.out.lt
 have hG6 := hG5.out.below hb6 hG5.out.lt
 have hZ6 := hZ5.out.below hb6 hZ5.out.lt
 have hb6' := hb5'.out.trans (hb6.mono hb5'.out.size)
 rw [hBe.out] at hown hsep
 have hgs7 : w6.grownBy (w6.setCell ⟨tb, 1, none⟩ (.slice a2 ln c2)) (some tb) := grown_set (World.grownBy.refl w6 _) (.inl rfl) _
 have hB7 : Hid (Blk (w6.setCell ⟨tb, 1, none⟩ (.slice a2 ln c2)) tb 113 (dirC D.priv a2 ln c2 ra rn rc)) := hB6.set 1 _
 have hG7 := Lib.hid (hG6.grown hgs7 (by intro e; injection e; omega))
 have hZ7 := Lib.hid (hZ6.grown hgs7 (by intro e; injection e; omega))
 have hb7 := Lib.hid (hb6'.grown hgs7 hb6'.size (fun k e => by cases e; have := htb.out; omega))
 have hown7 := Lib.hid (hown.kept hgs7 (.inr (by
  intro e
  have hlt := World.ownsRow.lt hown tb e
  have := hBx.out
  omega)))
 have hB7s : Hid (B ≤ (w6.setCell ⟨tb, 1, none⟩ (.slice a2 ln c2)).heap.size) := by rw [← hBe.out]; exact Nat.le_trans hb6.size hgs7.size
 have f1 := hB6.frozen 1
 have n1 := hB6.at_ (i := 1) (x := .slice la ln lc) rfl
 clear hown hB6 hG6 hZ6 hb6' hgs7 hB5 hG5 hZ5 hb5' hb6
 go_upto_region 11 with fail
 generalize w6.setCell ⟨tb, 1, none⟩ (.slice a2 ln c2) = w7 at *
 clear f1 n1
 have hgr7 : Hid (w7.rangeAt (tb + 1) 0 rx) := by rw [← hrx.out]; exact hG7.out.range
 have q1 := hB7.out.at_ (i := 1) (x := .slice a2 ln c2) rfl
 have hokx := hx'.out
 cases hs with
 | true =>
  rw [if_pos rfl] at hins
  have hpl := hplt.out rfl
  have p0 : (0 : Int) ≤ (p : Int) := by omega
  have p1 : (p : Int) < (ln : Int) := by omega
  obtain ⟨g, cap, hve, hBg, hgl, hth0, hgg, hown8⟩ := put_place hown7.out hln.out hpl x
  cases hve
  obtain ⟨WE, hWE0⟩ : ∃ WE, WE = w7.setCells g (p * 5) (gC x) := ⟨_, rfl⟩
  rw [← hWE0] at hgg hown8
  rw [hrx.out] at hWE0 hth0
  have hWE : Hid (WE = w7.setCells g (p * 5) rx) := hWE0
  have hth := Lib.hid hth0
  have hrs8 : Hid ((Tryz.prog.info? 118).map (·.size) = some rx.toArray.size) := by rw [List.size_toArray]; exact hgi.out
  have hone8 : Hid (∀ u ∈ rx, u.oneCell' = true) := by rw [← hrx.out]; exact gC_one x
  have hBE := Lib.hid (hB7.out.grown hgg (by intro e; injection e with e; have := hBx.out; omega))
  have hZE := Lib.hid (hZ7.out.grown hgg (by intro e; injection e with e; have := hBx.out; omega))
  have hbE := Lib.hid (hb7.out.grown hgg hb7.out.size (fun k e => by cases e; have := hBx.out; have := htb.out; omega))
  have hownE : WE.ownsRow B 118 5 (.slice (some ⟨g, 0, none⟩) ln c2) ln (gR (Go.Dr.insL x D.ls)) := by rw [hins.out]; exact hown8
  have hlE : Hid ((Go.Dr.insL x D.ls).length = ln) := by show _ = _; rw [hins.out, List.length_set]; exact hln.out
  have hokE : Hid (∀ y ∈ Go.Dr.insL x D.ls, OkG y) := fun y hy => by
   rw [hins.out] at hy
   rcases List.mem_or_eq_of_mem_set hy with h | h
   · exact hok0.out y h
   · rw [h]; exact hokx
  clear hown8 hgg hth0 hWE0 hown7 hB7 hG7 hZ7 hb7 hins hpl
  obtain ⟨a9, c9, hve, hGE⟩ := own_gs hownE hlE.out hokE.out
  cases hve
  have hDM : DM (fun _ => True) WE ⟨D.priv, Go.Dr.insL x D.ls, D.rs⟩ (some ⟨g, 0, none⟩) ln c2 ra rn rc := ⟨hpr.out, hGE.imp (fun _ _ _ => trivial), (hqs.out.below hbE.out).imp (fun _ _ _ => trivial)⟩
  have htk := Lib.hid (tick_any (fun _ => True) ⟨D.priv, Go.Dr.insL x D.ls, D.rs⟩ (some ⟨g, 0, none⟩) ln c2 ra rn rc WE (HT'.out.below hbE.out) hDM)
  have hGE' := Lib.hid hGE
  rw [← hset.out] at htk
  have e0 := hBE.out.at_ (i := 0) (x := .int .i64 D.priv) rfl
  have e1 := hBE.out.at_ (i := 1) (x := .slice (some ⟨g, 0, none⟩) ln c2) rfl
  have e2 := hBE.out.at_ (i := 2) (x := .slice ra rn rc) rfl
  clear hGE hDM hBE hownE
  go_wp2_with (first
   | (refine wpList_load_mid (by rfl) 118 (.tmp 3) (by rfl) (tb + 1) 0 (by rfl) rx _ hgr7.out Tryz.underlying118 (by rfl) hgi.out ?_)
    | (refine wpList_store_mid (by rfl) 118 (.tmp 59) (.tmp 58) (by rfl) g (p * 5) rx.toArray (by rfl) (by rfl) hth.out hrs8.out (by simpa using hone8.out) ?_
       generalize hWq : World.setCells _ _ _ _ = Wa
       obtain rfl : WE = Wa := by rw [← hWq]; exact hWE.out
       clear hWq))
  refine htk.out.mono ?_
  rintro e wT (⟨h0, ra2, rn2, rc2, rfl, hQ, hbT⟩ | ⟨h1, rfl, hbT⟩)
  · have hone : ∀ u ∈ dirC (Go.Dr.setD 4 D x).1.priv (some ⟨g, 0, none⟩) ln c2 ra2 rn2 rc2, u.oneCell' = true := by intro u hu; simp only [dirC, List.mem_cons, List.not_mem_nil, or_false] at hu; rcases hu with rfl | rfl | rfl <;> rfl
    obtain ⟨W9, hP⟩ := put_row (ty := 113) (hZE.out.below hbT hZE.out.lt) (x := dirC (Go.Dr.setD 4 D x).1.priv (some ⟨g, 0, none⟩) ln c2 ra2 rn2 rc2) rfl sizeDr hone
    have hbW := hbE.out.trans (hbT.mono hbE.out.size)
    have hG9 : GS (fun b => w.heap.size ≤ b) W9 (some ⟨g, 0, none⟩) ln c2 (Go.Dr.setD 4 D x).1.ls := by
     rw [hls.out h0]
     exact ((hGE'.out.below hbT).keep (Keeps.grown hP.grown (fun b hb e => by have := hBx.out; omega))).imp (fun b _ hb => by have := hBx.out; have := htb.out; omega)
    have hQ9 : QS (fun b => w.heap.size ≤ b) W9 ra2 rn2 rc2 (Go.Dr.setD 4 D x).1.rs := (hQ.keep (Keeps.grown hP.grown (fun b hb e => by have := hZE.out.lt; omega))).imp (fun b _ hb => by have := hbE.out.size; omega)
    have hfin : Hid (X (.returned (.tuple #[.agg (dirC (Go.Dr.setD 4 D x).1.priv (some ⟨g, 0, none⟩) ln c2 ra2 rn2 rc2).toArray, .int .i64 0])) W9) := hX.out _ _ (.inl ⟨h0, (some ⟨g, 0, none⟩), ln, c2, ra2, rn2, rc2, rfl, ⟨by rw [hpv9.out h0]; exact hpr.out, hG9, hQ9⟩, below_grown hbW hP.grown hbW.size (by have := htb.out; omega)⟩)
    have hP' := Lib.hid hP
    have hbk := Lib.hid hP.blk
    have hzi : Hid ((Tryz.prog.info? 113).map (·.size) = some (dirC (Go.Dr.setD 4 D x).1.priv (some ⟨g, 0, none⟩) ln c2 ra2 rn2 rc2).length) := sizeDr
    obtain ⟨r9, hr9⟩ : ∃ r, Hid (dirC (Go.Dr.setD 4 D x).1.priv (some ⟨g, 0, none⟩) ln c2 ra2 rn2 rc2 = r) := ⟨_, rfl⟩
    rw [hr9.out] at hP' hbk hzi hfin ⊢
    clear hP hQ hQ9 hG9 hone hGE' htk hbT hbW hX e0 e1 e2
    go_wp2_with (first
     | (refine wpList_store_mid (by rfl) 113 (.tmp 4) (.tmp 69) (by rfl) (tb + 1 + 1) 0 r9.toArray (by rfl) (by rfl) hP'.out.there hP'.out.info (by simpa using hP'.out.one) ?_
        generalize hWq : World.setCells _ _ _ _ = Wa
        obtain rfl : W9 = Wa := by rw [← hWq]; exact hP'.out.eq
        clear hWq))
    refine ret_cell_tmp (p := 4) (u := 5) rfl hbk.out Tryz.underlying113 rfl hzi.out rfl rfl rfl ?_
    exact hfin.out
  · obtain ⟨W9, hP⟩ := put_row (ty := 113) (hZE.out.below hbT hZE.out.lt) (x := dirC 0 none 0 0 none 0 0) rfl sizeDr (by intro u hu; simp only [dirC, List.mem_cons, List.not_mem_nil, or_false] at hu; rcases hu with rfl | rfl | rfl <;> rfl)
    have hbW := hbE.out.trans (hbT.mono hbE.out.size)
    have hfin : Hid (X (.returned (.tuple #[.agg (dirC 0 none 0 0 none 0 0).toArray, .int .i64 (Go.Dr.setD 4 D x).2])) W9) := hX.out _ _ (.inr ⟨h1, rfl, below_grown hbW hP.grown hbW.size (by have := htb.out; omega)⟩)
    have hP' := Lib.hid hP
    have hbk := Lib.hid hP.blk
    have hzi : Hid ((Tryz.prog.info? 113).map (·.size) = some (dirC 0 none 0 0 none 0 0).length) := sizeDr
    obtain ⟨r9, hr9⟩ : ∃ r, Hid (dirC 0 none 0 0 none 0 0 = r) := ⟨_, rfl⟩
    obtain ⟨cd, hcd⟩ : ∃ c, Hid ((Go.Dr.setD 4 D x).2 = c) := ⟨_, rfl⟩
    rw [hr9.out, hcd.out] at hfin ⊢
    rw [hr9.out] at hP' hbk hzi
    clear hP hGE' htk hbT hbW hX h1 e0 e1 e2
    go_wp2_with (first
     | (refine wpList_store_mid (by rfl) 113 (.tmp 4) (.tmp 69) (by rfl) (tb + 1 + 1) 0 r9.toArray (by rfl) (by rfl) hP'.out.there hP'.out.info (by simpa using hP'.out.one) ?_
        generalize hWq : World.setCells _ _ _ _ = Wa
        obtain rfl : W9 = Wa := by rw [← hWq]; exact hP'.out.eq
        clear hWq))
    refine ret_cell_tmp (p := 4) (u := 5) rfl hbk.out Tryz.underlying113 rfl hzi.out rfl rfl rfl ?_
    exact hfin.out
 | false =>
  rw [if_neg (by simp)] at hins
  have hown7b := hown7.out
  have hlsl := Lib.hid (listing_slice1 x)
  have hpl := hple.out
  obtain ⟨W8, hW8⟩ : ∃ W8, Hid (w7.alloc (.cells (gC x).toArray 118) = W8) := ⟨_, rfl⟩
  have hN8 : Blk W8 w7.heap.size 118 (gC x) := by rw [← hW8.out]; exact Blk.new w7 _ _
  have hown8 : W8.ownsRow B 118 5 (.slice a2 ln c2) ln (gR D.ls) := by rw [← hW8.out]; exact World.ownsRow.alloc hown7b _
  have hi9 := Lib.hid (insertG_any B (.slice a2 ln c2) ln p (gR D.ls) (gC x) W8 hown8 hpl (gR_one _) w7.heap.size hN8 (fun k e => by have := World.ownsRow.lt hown7b k e; omega) rfl (gC_one x) (by rw [← hW8.out]; simp; have := hB7s.out; omega) (by omega))
  have hB8 := Lib.hid (show Blk W8 tb 113 (dirC D.priv a2 ln c2 ra rn rc) by rw [← hW8.out]; exact hB7.out.alloc _)
  have hZ8 := Lib.hid (show Blk W8 (tb + 1 + 1) 113 (dirC 0 none 0 0 none 0 0) by rw [← hW8.out]; exact hZ7.out.alloc _)
  have hb8 := Lib.hid (show Below w.heap.size w W8 by rw [← hW8.out]; exact hb7.out.alloc hb7.out.size _)
  have hsl8 : Hid ((Instr.buildSlice 111 1 #[(0, .agg (gC x).toArray)]).run Tryz.prog w7 = .ok (.slice (some ⟨w7.heap.size, 0, none⟩) 1 1) W8) := by rw [← hW8.out]; exact listing_slice1 x w7
  have hins9 : Hid ((gR D.ls).take (p * 5) ++ gC x ++ (gR D.ls).drop (p * 5) = gR (Go.Dr.insL x D.ls)) := by
   show _ = _
   rw [hins.out, gR_append, gR_cons, gR_take, gR_drop, List.append_assoc]
  have hlE : Hid ((Go.Dr.insL x D.ls).length = ln + 1) := by
   show _ = _
   have := hln.out
   rw [hins.out, List.length_append, List.length_take, List.length_cons, List.length_drop]; omega
  have hokE : Hid (∀ y ∈ Go.Dr.insL x D.ls, OkG y) := fun y hy => by
   rw [hins.out] at hy
   rcases List.mem_append.1 hy with h | h
   · exact hok0.out y (List.mem_of_mem_take h)
   · rcases List.mem_cons.1 h with h | h
     · rw [h]; exact hokx
     · exact hok0.out y (List.mem_of_mem_drop h)
  rw [hins9.out] at hi9
  rw [hrx.out] at hsl8
  clear hN8 hown8 hown7 hown7b hB7 hG7 hZ7 hb7 hins9 hW8
  go_wp2_with (first
   | (refine wpList_load_mid (by rfl) 118 (.tmp 3) (by rfl) (tb + 1) 0 (by rfl) rx _ hgr7.out Tryz.underlying118 (by rfl) hgi.out ?_)
    | (refine wpList_buildSlice_run (by rfl) 111 1 _ rfl #[(0, .agg rx.toArray)] (by simp only [List.map_toArray, List.map_cons, List.map_nil]; rfl) hsl8.out ?_))
  refine hi9.out.mono ?_
  rintro e w9 ⟨v, rfl, hown9, hb9⟩
  obtain ⟨aE, cE, rfl, _, _⟩ := Sl.of_owns hown9
  have hB9 := hB8.out.below hb9 (by have := hBx.out; omega)
  have hZ9 := hZ8.out.below hb9 (by have := hBx.out; omega)
  have hb9' := hb8.out.trans (hb9.mono (by have := hBx.out; have := htb.out; omega))
  have hgsE : w9.grownBy (w9.setCell ⟨tb, 1, none⟩ (.slice aE (ln + 1) cE)) (some tb) := grown_set (World.grownBy.refl w9 _) (.inl rfl) _
  have hBE : Hid (Blk (w9.setCell ⟨tb, 1, none⟩ (.slice aE (ln + 1) cE)) tb 113 (dirC D.priv aE (ln + 1) cE ra rn rc)) := hB9.set 1 _
  have hZE := Lib.hid (hZ9.grown hgsE (by intro e; injection e; omega))
  have hbE := Lib.hid (hb9'.grown hgsE hb9'.size (fun k e => by cases e; have := htb.out; omega))
  have hownE := hown9.kept hgsE (.inr (by
   intro e
   have hlt := World.ownsRow.lt hown9 tb e
   have := hBx.out
   omega))
  have f1 := hB9.frozen 1
  have n1 := hB9.at_ (i := 1) (x := .slice a2 ln c2) rfl
  clear hown9 hB9 hZ9 hb9' hgsE hB8 hZ8 hb8 hb9 hi9 q1
  go_upto_region 14 with fail
  generalize w9.setCell ⟨tb, 1, none⟩ (.slice aE (ln + 1) cE) = WE at *
  clear f1 n1
  obtain ⟨a9, c9, hve, hGE⟩ := own_gs hownE hlE.out hokE.out
  cases hve
  have hDM : DM (fun _ => True) WE ⟨D.priv, Go.Dr.insL x D.ls, D.rs⟩ aE (ln + 1) cE ra rn rc := ⟨hpr.out, hGE.imp (fun _ _ _ => trivial), (hqs.out.below hbE.out).imp (fun _ _ _ => trivial)⟩
  have htk := Lib.hid (tick_any (fun _ => True) ⟨D.priv, Go.Dr.insL x D.ls, D.rs⟩ aE (ln + 1) cE ra rn rc WE (HT'.out.below hbE.out) hDM)
  have hGE' := Lib.hid hGE
  rw [← hset.out] at htk
  have e0 := hBE.out.at_ (i := 0) (x := .int .i64 D.priv) rfl
  have e1 := hBE.out.at_ (i := 1) (x := .slice aE (ln + 1) cE) rfl
  have e2 := hBE.out.at_ (i := 2) (x := .slice ra rn rc) rfl
  clear hGE hDM hBE hownE
  go_wp2_with fail
  refine htk.out.mono ?_
  rintro e wT (⟨h0, ra2, rn2, rc2, rfl, hQ, hbT⟩ | ⟨h1, rfl, hbT⟩)
  · have hone : ∀ u ∈ dirC (Go.Dr.setD 4 D x).1.priv aE (ln + 1) cE ra2 rn2 rc2, u.oneCell' = true := by intro u hu; simp only [dirC, List.mem_cons, List.not_mem_nil, or_false] at hu; rcases hu with rfl | rfl | rfl <;> rfl
    obtain ⟨W9, hP⟩ := put_row (ty := 113) (hZE.out.below hbT hZE.out.lt) (x := dirC (Go.Dr.setD 4 D x).1.priv aE (ln + 1) cE ra2 rn2 rc2) rfl sizeDr hone
    have hbW := hbE.out.trans (hbT.mono hbE.out.size)
    have hG9 : GS (fun b => w.heap.size ≤ b) W9 aE (ln + 1) cE (Go.Dr.setD 4 D x).1.ls := by
     rw [hls.out h0]
     exact ((hGE'.out.below hbT).keep (Keeps.grown hP.grown (fun b hb e => by have := hBx.out; omega))).imp (fun b _ hb => by have := hBx.out; have := htb.out; omega)
    have hQ9 : QS (fun b => w.heap.size ≤ b) W9 ra2 rn2 rc2 (Go.Dr.setD 4 D x).1.rs := (hQ.keep (Keeps.grown hP.grown (fun b hb e => by have := hZE.out.lt; omega))).imp (fun b _ hb => by have := hbE.out.size; omega)
    have hfin : Hid (X (.returned (.tuple #[.agg (dirC (Go.Dr.setD 4 D x).1.priv aE (ln + 1) cE ra2 rn2 rc2).toArray, .int .i64 0])) W9) := hX.out _ _ (.inl ⟨h0, aE, (ln + 1), cE, ra2, rn2, rc2, rfl, ⟨by rw [hpv9.out h0]; exact hpr.out, hG9, hQ9⟩, below_grown hbW hP.grown hbW.size (by have := htb.out; omega)⟩)
    have hP' := Lib.hid hP
    have hbk := Lib.hid hP.blk
    have hzi : Hid ((Tryz.prog.info? 113).map (·.size) = some (dirC (Go.Dr.setD 4 D x).1.priv aE (ln + 1) cE ra2 rn2 rc2).length) := sizeDr
    obtain ⟨r9, hr9⟩ : ∃ r, Hid (dirC (Go.Dr.setD 4 D x).1.priv aE (ln + 1) cE ra2 rn2 rc2 = r) := ⟨_, rfl⟩
    rw [hr9.out] at hP' hbk hzi hfin ⊢
    clear hP hQ hQ9 hG9 hone hGE' htk hbT hbW hX e0 e1 e2
    go_wp2_with (first
     | (refine wpList_store_mid (by rfl) 113 (.tmp 4) (.tmp 69) (by rfl) (tb + 1 + 1) 0 r9.toArray (by rfl) (by rfl) hP'.out.there hP'.out.info (by simpa using hP'.out.one) ?_
        generalize hWq : World.setCells _ _ _ _ = Wa
        obtain rfl : W9 = Wa := by rw [← hWq]; exact hP'.out.eq
        clear hWq))
    refine ret_cell_tmp (p := 4) (u := 5) rfl hbk.out Tryz.underlying113 rfl hzi.out rfl rfl rfl ?_
    exact hfin.out
  · obtain ⟨W9, hP⟩ := put_row (ty := 113) (hZE.out.below hbT hZE.out.lt) (x := dirC 0 none 0 0 none 0 0) rfl sizeDr (by intro u hu; simp only [dirC, List.mem_cons, List.not_mem_nil, or_false] at hu; rcases hu with rfl | rfl | rfl <;> rfl)
    have hbW := hbE.out.trans (hbT.mono hbE.out.size)
    have hfin : Hid (X (.returned (.tuple #[.agg (dirC 0 none 0 0 none 0 0).toArray, .int .i64 (Go.Dr.setD 4 D x).2])) W9) := hX.out _ _ (.inr ⟨h1, rfl, below_grown hbW hP.grown hbW.size (by have := htb.out; omega)⟩)
    have hP' := Lib.hid hP
    have hbk := Lib.hid hP.blk
    have hzi : Hid ((Tryz.prog.info? 113).map (·.size) = some (dirC 0 none 0 0 none 0 0).length) := sizeDr
    obtain ⟨r9, hr9⟩ : ∃ r, Hid (dirC 0 none 0 0 none 0 0 = r) := ⟨_, rfl⟩
    obtain ⟨cd, hcd⟩ : ∃ c, Hid ((Go.Dr.setD 4 D x).2 = c) := ⟨_, rfl⟩
    rw [hr9.out, hcd.out] at hfin ⊢
    rw [hr9.out] at hP' hbk hzi
    clear hP hGE' htk hbT hbW hX h1 e0 e1 e2
    go_wp2_with (first
     | (refine wpList_store_mid (by rfl) 113 (.tmp 4) (.tmp 69) (by rfl) (tb + 1 + 1) 0 r9.toArray (by rfl) (by rfl) hP'.out.there hP'.out.info (by simpa using hP'.out.one) ?_
        generalize hWq : World.setCells _ _ _ _ = Wa
        obtain rfl : W9 = Wa := by rw [← hWq]; exact hP'.out.eq
        clear hWq))
    refine ret_cell_tmp (p := 4) (u := 5) rfl hbk.out Tryz.underlying113 rfl hzi.out rfl rfl rfl ?_
    exact hfin.out

theorem set_any (K : Nat → Prop) (D : Dir) (la : Option Addr) (ln lc : Nat) (ra : Option Addr) (rn rc : Nat) (x : Lst) (hx : OkG x) (w : World) (HT : Tabs w) (H : DM K w D la ln lc ra rn rc) : Calls Tryz.prog 128 #[.agg (dirC D.priv la ln lc ra rn rc).toArray, .agg (gC x).toArray] w (SetPost (Go.Dr.setD 4 D x) w) := by
 cases hk : keyOk D.priv with
 | false =>
  have e : Go.Dr.setD 4 D x = (Go.Dr.zeroDir, 50) := by unfold Go.Dr.setD; rw [if_neg (by rw [hk]; simp)]
  rw [e]
  exact (set_key K D la ln lc ra rn rc x hx w HT H hk).mono (fun e w' h => .inr ⟨by simp, h.1, h.2⟩)
 | true =>
  cases hc : Go.Dr.chkL D.ls with
  | false =>
   have e : Go.Dr.setD 4 D x = (Go.Dr.zeroDir, 350) := by unfold Go.Dr.setD; rw [if_pos hk, if_neg (by rw [hc]; simp)]
   rw [e]
   exact (set_chk K D la ln lc ra rn rc x hx w HT H hk hc).mono (fun e w' h => .inr ⟨by simp, h.1, h.2⟩)
  | true =>
   cases hf : Go.Dr.fitsB x with
   | false =>
    have e : Go.Dr.setD 4 D x = (Go.Dr.zeroDir, 350) := by unfold Go.Dr.setD; rw [if_pos hk, if_pos hc, if_neg (by rw [hf]; simp)]
    rw [e]
    exact (set_unfit K D la ln lc ra rn rc x hx w HT H hk hc hf).mono (fun e w' h => .inr ⟨by simp, h.1, h.2⟩)
   | true =>
    by_cases hv : x.vers = Go.Dr.oldV D.ls x.dev + 1
    · exact set_ok K D la ln lc ra rn rc x hx w HT H hk hc hf hv
    · have e : Go.Dr.setD 4 D x = (Go.Dr.zeroDir, 350) := by unfold Go.Dr.setD; rw [if_pos hk, if_pos hc, if_neg (by rw [hf, decide_eq_false hv]; simp)]
      rw [e]
      exact (set_old K D la ln lc ra rn rc x hx w HT H hk hc hf hv).mono (fun e w' h => .inr ⟨by simp, h.1, h.2⟩)
end Go.Proofs.YtlpgjdlkjahdgaaGreatDoor
namespace Go.Dr
def exL : Lst := ⟨3, 4, 16, 1, false⟩
theorem ok0 : Grp.ok 0 = false := by unfold Grp.ok; rw [decide_eq_false_iff_not]; omega
open Go.Proofs.YtlpgjdlkjahdgaaGreatDoor (OkQ keyOk I64)
theorem key5 : keyOk 5 = true := by decide
end Go.Dr
namespace Go.Proofs.YtlpgjdlkjahdgaaGreatDoor
open Go.RowKit Go.Mem
open Go.Dr (Lst Rt Dir exL)

theorem wpList_load_gd {P : Program} {ops : Array Oper} {rest : List Oper} {op : Oper} {a : Act} {w : World} {Q : Exit → Act → World → Prop} (hw : Region.wanted op (yielded ops a.tmps) = true) (ty : TypeId) (x : Operand) (ho : op.op = .load ty x)
 (b o : Nat) (hx : a.eval x = .pointer (some ⟨b, o, none⟩)) (cs : List Value) (d : TypeDesc) (hc : w.rangeAt b o cs)
 (hu : P.underlying ty = some d) (hd : d.isRow = true) (hi : (P.info? ty).map (·.size) = some cs.length)
 (h : wpList P ops Q rest (a.put op.dst (.agg cs.toArray)) w) : wpList P ops Q (op :: rest) a w :=
 BigFrame.wpList_want hw fun _ hK => wp_load_mid ty x ho b o hx cs d hc hu hd hi (hK _ _ h)
theorem dr_one (p : Int) (a : Option Addr) (n c : Nat) (b : Option Addr) (m d : Nat) : ∀ u ∈ dirC p a n c b m d, u.oneCell' = true := by intro u hu; simp only [dirC, List.mem_cons, List.not_mem_nil, or_false] at hu; rcases hu with rfl | rfl | rfl <;> rfl
theorem okL_zero : OkG Go.Dr.zeroL := ⟨i64_0, i64_0, i64_0, i64_0⟩
def zdV : List Value := dirC 0 none 0 0 none 0 0

theorem set_at {D E : Dir} {x : Lst} {la : Option Addr} {ln lc : Nat} {ra : Option Addr} {rn rc : Nat} {w : World} (h : Go.Dr.setD 4 D x = (E, 0)) (hx : OkG x) (HT : Tabs w) (H : DM (fun _ => True) w D la ln lc ra rn rc) :
 Calls Tryz.prog 128 #[.agg (dirC D.priv la ln lc ra rn rc).toArray, .agg (gC x).toArray] w (fun e w' => ∃ a c b d, e = .returned (.tuple #[.agg (dirC E.priv a E.ls.length c b E.rs.length d).toArray, .int .i64 0]) ∧ DM (fun b => w.heap.size ≤ b) w' E a E.ls.length c b E.rs.length d ∧ Below w.heap.size w w') := by
 have h1 := set_any (fun _ => True) D la ln lc ra rn rc x hx w HT H
 rw [h] at h1
 refine h1.mono ?_
 rintro e w' (⟨_, a, n, c, b, m, d, rfl, hD, hb⟩ | ⟨h0, _⟩)
 · obtain rfl : E.ls.length = n := RS.len hD.gs
   obtain rfl : E.rs.length = m := RS.len hD.qs
   exact ⟨a, c, b, d, rfl, hD, hb⟩
 · exact absurd rfl h0
theorem set_no {D E : Dir} {x : Lst} {q : Int} {la : Option Addr} {ln lc : Nat} {ra : Option Addr} {rn rc : Nat} {w : World} (h : Go.Dr.setD 4 D x = (E, q)) (hq : q ≠ 0) (hx : OkG x) (HT : Tabs w) (H : DM (fun _ => True) w D la ln lc ra rn rc) :
 Calls Tryz.prog 128 #[.agg (dirC D.priv la ln lc ra rn rc).toArray, .agg (gC x).toArray] w (fun e w' => e = .returned (.tuple #[.agg zdV.toArray, .int .i64 q]) ∧ Below w.heap.size w w') := by
 have h1 := set_any (fun _ => True) D la ln lc ra rn rc x hx w HT H
 rw [h] at h1
 refine h1.mono ?_
 rintro e w' (⟨h0, _⟩ | ⟨_, rfl, hb⟩)
 · exact absurd h0 hq
 · exact ⟨rfl, hb⟩
end Go.Proofs.YtlpgjdlkjahdgaaGreatDoor
namespace Go.Proofs.YtlpgjdlkjahdgaaGreatDoor
open Go.ChangeShapes Go.WideShapes Go.ChangeAt Go.RowKit Go.Joins Go.Mem
open Go.Dr (Lst Rt Dir)

theorem own : ownKnob Tryz.prog.godebug = none := by kernel_rfl
theorem laidOut : laidOutB Tryz.prog = true := by kernel_rfl
theorem cellsU8 : Tryz.prog.cellsOf 5 = 1 := by kernel_rfl
theorem cellsU32 : Tryz.prog.cellsOf 167 = 1 := by kernel_rfl
theorem cellsInt : Tryz.prog.cellsOf 3 = 1 := by kernel_rfl
theorem cellsSig : Tryz.prog.cellsOf 45 = 2 := by kernel_rfl
theorem wf_i64 {n : Int} (h : (Lit.int .i64 n).wf = true) : I64 n := by
 have := bounds_i64 h
 unfold I64; omega

section
variable {H : Type} {enc : TypeId × Value → H} {W : World} {spare held : Bool}

theorem one_at {cs : List Value} {i : Nat} {v : Value} (h : (cs.drop (i * 1)).take 1 = [v]) : cs[i]? = some v := by
 rw [Nat.mul_one] at h
 have := congrArg (·[0]?) h
 simpa using this

theorem open_digest {fuel : Nat} {cs : List Value} {x : DataW H × List MemPlace} (h : DataW.trod enc Tryz.prog W 0 (fun _ => true) true fuel 43 cs = some x) :
 ∃ D : List Nat, cs = bv D ∧ D.length = 32 ∧ ∀ u ∈ D, u < 256 := by
 obtain ⟨xs, m, _, _, hl, hn, he⟩ := DataW.trod_array Tryz.underlying43 h
 rw [cells35] at hl
 rw [cellsU8] at he
 have each : ∀ i, i < 32 → ∃ y : Nat, cs[i]? = some (.int .u8 (y : Int)) ∧ y < 256 := by
  intro i hi
  have h1 := he i hi
  rw [List.getElem?_eq_getElem (by omega)] at h1
  obtain ⟨a, e0, _, w0⟩ := DataW.trod_int Tryz.underlying5 h1
  have hb : 0 ≤ a ∧ a < 256 := by
   have h2 : IntKind.u8.min ≤ a ∧ a ≤ IntKind.u8.max := by simpa [Lit.wf] using w0
   have e1 : IntKind.u8.min = 0 := rfl
   have e2 : IntKind.u8.max = 255 := rfl
   omega
  exact ⟨a.toNat, by rw [one_at e0, Int.toNat_of_nonneg hb.1], by omega⟩
 obtain ⟨f, hf⟩ := Deep.choose_lt each
 refine ⟨(List.range 32).map f, ?_, by simp, fun u hu => ?_⟩
 · apply List.ext_getElem?
   intro i
   by_cases hi : i < 32
   · rw [(hf i hi).1]
     simp [bv, hi]
   · rw [List.getElem?_eq_none (by omega), List.getElem?_eq_none (by simp [bv]; omega)]
 · obtain ⟨i, hi, rfl⟩ := List.mem_map.1 hu
   exact (hf i (List.mem_range.1 hi)).2

theorem open_int1 {fuel : Nat} {cs : List Value} {x : DataW H × List MemPlace} (h : DataW.trod enc Tryz.prog W 0 (fun _ => true) true fuel 3 cs = some x) : ∃ a : Int, cs = [.int .i64 a] ∧ I64 a := by
 obtain ⟨a, e, _, w⟩ := DataW.trod_int Tryz.underlying3 h
 exact ⟨a, e, wf_i64 w⟩

theorem len_two : ∀ {l : List Value}, l.length = 2 → ∃ u v, l = [u, v]
 | [u, v], _ => ⟨u, v, rfl⟩
theorem drop_parts (cs : List Value) (i k j : Nat) (hj : i + k = j) : cs.drop i = (cs.drop i).take k ++ cs.drop j := by
 rw [← hj, ← List.drop_drop, List.take_append_drop]

theorem trod_u32s {t : TypeId} {k fuel : Nat} {l : List Nat} {cs : List Value} {p : List MemPlace} (ht : Tryz.prog.underlying t = some (.array k 167)) (hk : l.length = k)
 (h : DataW.trod enc Tryz.prog W 0 (fun _ => spare) held fuel t cs = some (.agg (l.map fun (x : Nat) => .lit (.int .u32 (x : Int))), p)) : ∀ (i : Nat) x, l[i]? = some x → cs[i]? = some (.int .u32 ((x : Nat) : Int)) := by
 obtain ⟨xs, m, _, hx, hl, hn, he⟩ := DataW.trod_array ht h
 rw [cellsU32] at he
 intro i x hi
 have hik := (List.getElem?_eq_some_iff.1 hi).1
 have h1 := he i (by omega)
 rw [List.getElem?_eq_getElem (by omega)] at h1
 obtain ⟨a, e0, e1, _⟩ := DataW.trod_int Tryz.underlying167 h1
 rw [one_at e0]
 simp only [Prod.mk.injEq, DataW.agg.injEq] at hx
 have h2 := congrArg (·[i]?) hx.1
 simp only [List.getElem?_map, hi, Option.map_some] at h2
 rw [List.getElem?_eq_getElem (by omega)] at h2
 simp only [Option.map_some, Option.some.injEq] at h2
 rw [e1] at h2
 simp only [DataW.lit.injEq, Lit.int.injEq, true_and] at h2
 rw [h2]
end

theorem gStart : Tryz.prog.globalNamed "chartroom/digest.start" = some 0 := by kernel_rfl
theorem gNums : Tryz.prog.globalNamed "chartroom/digest.numbers" = some 1 := by kernel_rfl
theorem datStart {H : Type} : (Rows.laid_chartroom_digest_start : DataW H) = .agg ((stv Sha.start).map fun (x : Nat) => .lit (.int .u32 (x : Int))) := rfl
theorem datNums {H : Type} : (Rows.laid_chartroom_digest_numbers : DataW H) = .agg (Sha.K.map fun (x : Nat) => .lit (.int .u32 (x : Int))) := rfl
abbrev laid2 {H : Type} : List (String × DataW H) := [("chartroom/digest.start", Rows.laid_chartroom_digest_start), ("chartroom/digest.numbers", Rows.laid_chartroom_digest_numbers), ("bytes.ErrTooLarge", Rows.laid_bytes_ErrTooLarge)]

theorem door_met (os : Os) (args : Array Value) : laidMetH Tryz.prog laid2 ((World.doorLaid Tryz.prog 400 os).forCall (fun _ _ => 0) ⟨#[], args, []⟩).memory :=
 laidMetH_of_parts3 (fuel := 8) (laidMet_of_run' 8 (by kernel_rfl) (by kernel_rfl)) (by kernel_rfl) (by kernel_rfl)

theorem tabs_of_laid {W : World} (h : laidMetH Tryz.prog laid2 W) : Tabs W := by
 rw [MakeChecks.laidMetH_plain _ _ _ (by kernel_rfl)] at h
 obtain ⟨ps, ⟨g0, t0, cs0, f0, p0, q0, hg0, ht0, hv0, hd0, ⟨g1, t1, cs1, f1, p1, q1, hg1, ht1, hv1, hd1, _, _⟩, _⟩, _, _⟩ := h
 obtain rfl := Option.some.inj (gStart.symm.trans hg0)
 obtain rfl := Option.some.inj (gNums.symm.trans hg1)
 obtain rfl := Option.some.inj ((show (Tryz.prog.globals[0]?).map (·.type) = some 168 by kernel_rfl).symm.trans ht0)
 obtain rfl := Option.some.inj ((show (Tryz.prog.globals[1]?).map (·.type) = some 214 by kernel_rfl).symm.trans ht1)
 rw [datStart] at hd0
 rw [datNums] at hd1
 have s0 := trod_u32s Tryz.underlying168 rfl hd0
 have s1 := trod_u32s Tryz.underlying214 rfl hd1
 have c1 : ∀ (i : Nat) x, Sha.K[i]? = some x → W.cell? ⟨1, i, none⟩ = some (.int .u32 ((x : Nat) : Int)) := fun i x hx => by
  rw [World.var?_cell hg1 hv1 i]
  have := s1 i x hx
  simpa using this
 refine ⟨⟨?_, c1⟩, fun i x hx => ?_⟩
 · exact World.block_lt_of_cell? W _ (c1 0 _ rfl)
 · rw [World.var?_cell hg0 hv0 i]
   have := s0 i x hx
   simpa using this
section
variable {H : Type} {enc : TypeId × Value → H} {W : World}
theorem open_rows {α : Type} (d0 : α) {s : Nat} {R : World → α → List Value → Prop} {t e : TypeId} (ht : Tryz.prog.underlying t = some (.slice e)) (hs : Tryz.prog.cellsOf e = s) (h0 : 0 < s)
 (hel : ∀ {fuel : Nat} {cs : List Value} {x : DataW H × List MemPlace}, DataW.trod enc Tryz.prog W 0 (fun _ => true) true fuel e cs = some x → ∃ y, R W y cs ∧ cs.length = s)
 {fuel : Nat} {cs : List Value} {x : DataW H × List MemPlace} (h : DataW.trod enc Tryz.prog W 0 (fun _ => true) true fuel t cs = some x) : ∃ a n c l, cs = [.slice a n c] ∧ RS s R (fun _ => True) W a n c l := by
 rcases Deep.open_slice ht h with ⟨rfl, _⟩ | ⟨ad, len, cap, m, k, D, Pl, rfl, hb, hl, hm, hmm, _, hx⟩
 · exact ⟨none, 0, 0, [], rfl, RS.nil0 _ _ _⟩
 · simp at hmm
   subst hmm
   rw [hs] at hx
   have each : ∀ i, i < m → ∃ q : α × List Value, (∀ j u, q.2[j]? = some u → W.cell? ((ad.add (i * s)).add j) = some u) ∧ R W q.1 q.2 ∧ q.2.length = s := by
    intro i hi
    obtain ⟨cs', h1, h2⟩ := hx i hi
    obtain ⟨_, hlen, hcell⟩ := World.cells?_some h1
    obtain ⟨y, hy, hl4⟩ := hel h2
    refine ⟨(y, cs'), fun j u hu => ?_, hy, hl4⟩
    have hj := (List.getElem?_eq_some_iff.1 hu).1
    have := hcell j (by rw [← hlen]; exact hj)
    rw [this]
    simpa using hu
   have : Inhabited (α × List Value) := ⟨(d0, [])⟩
   obtain ⟨T, hT⟩ := Deep.choose_lt each
   have hrs : ∀ r ∈ (List.range len).map (fun i => (T i).2), r.length = s := fun r hr => by
    obtain ⟨i, hi, rfl⟩ := List.mem_map.1 hr
    exact (hT i (by have := List.mem_range.1 hi; omega)).2.2
   refine ⟨_, len, m, (List.range len).map (fun i => (T i).1), rfl, by simp, fun _ _ _ => trivial, (List.range len).map (fun i => (T i).2), ⟨?_, hl, hm, (fun e => by cases e), fun hn => ?_⟩, ⟨by simp, hrs, fun i e r he hr => ?_⟩⟩
   · rw [flat_len hrs]; simp
   · obtain ⟨b, off, spot⟩ := ad
     have hrow : ∀ i, i < len → ∀ j, j < s → ∃ u, (T i).2[j]? = some u := fun i hi j hj => ⟨_, List.getElem?_eq_getElem (by rw [(hT i (by omega)).2.2]; exact hj)⟩
     obtain ⟨u0, hu0⟩ := hrow 0 hn 0 h0
     have c0 := (hT 0 (by omega)).1 0 u0 hu0
     have hspot : spot = none := by simpa [Addr.add] using World.cell?_spot c0
     subst hspot
     have hbl : b < W.heap.size := World.block_lt_of_cell? W _ (by simpa [Addr.add] using c0)
     refine ⟨b, off, rfl, hbl, fun j u hj => ?_⟩
     have hjl := (List.getElem?_eq_some_iff.1 hj).1
     rw [flat_len hrs] at hjl
     simp only [List.length_map, List.length_range] at hjl
     have hi : j / s < len := Nat.div_lt_of_lt_mul (by rw [Nat.mul_comm]; exact hjl)
     have hjm := Nat.mod_lt j h0
     have hdm : j / s * s + j % s = j := by rw [Nat.mul_comm]; exact Nat.div_add_mod j s
     obtain ⟨v, hv⟩ := hrow (j / s) hi (j % s) hjm
     have hg := flat_get (i := j / s) (j := j % s) hrs (r := (T (j / s)).2) (by simp [hi]) hv
     rw [hdm, hj] at hg
     cases hg
     have := (hT (j / s) (by omega)).1 _ _ hv
     rw [Addr.add_lit, Addr.add_lit] at this
     rw [show off + j = off + j / s * s + j % s by omega]
     exact this
   · have hi : i < len := by have := (List.getElem?_eq_some_iff.1 he).1; simpa using this
     rw [List.getElem?_map, List.getElem?_range hi] at he hr
     simp at he hr
     subst he hr
     exact (hT i (by omega)).2.1

theorem open_rt {fuel : Nat} {cs : List Value} {x : DataW H × List MemPlace} (h : DataW.trod enc Tryz.prog W 0 (fun _ => true) true fuel 62 cs = some x) : ∃ y : Rt, OkQ y ∧ cs = rC y := by
 obtain ⟨xs, n, _, rfl, hl, hlen, hf⟩ := DataW.trod_struct Tryz.underlying62 h
 rw [cellsRt] at hl
 match xs, hlen with
 | [y0, y1, y2, y3], _ =>
  have h0 : DataW.trod enc Tryz.prog W 0 (fun _ => true) true n 3 ((cs.drop 0).take (Tryz.prog.cellsOf 3)) = some y0 := hf 0 _ rfl
  rw [cellsInt] at h0
  have h1 : DataW.trod enc Tryz.prog W 0 (fun _ => true) true n 43 ((cs.drop 1).take (Tryz.prog.cellsOf 43)) = some y1 := hf 1 _ rfl
  rw [cells35] at h1
  have h2 : DataW.trod enc Tryz.prog W 0 (fun _ => true) true n 43 ((cs.drop 33).take (Tryz.prog.cellsOf 43)) = some y2 := hf 2 _ rfl
  rw [cells35] at h2
  have h3 : DataW.trod enc Tryz.prog W 0 (fun _ => true) true n 45 ((cs.drop 65).take (Tryz.prog.cellsOf 45)) = some y3 := hf 3 _ rfl
  rw [cellsSig] at h3
  obtain ⟨no, e0, i0⟩ := open_int1 h0
  obtain ⟨D, e1, hD, hDu⟩ := open_digest h1
  obtain ⟨E, e2, hE, hEu⟩ := open_digest h2
  obtain ⟨ys, n4, _, _, hl4, hlen4, hf4⟩ := DataW.trod_struct Tryz.underlying45 h3
  match ys, hlen4 with
  | [z0, z1], _ =>
   have g0 : DataW.trod enc Tryz.prog W 0 (fun _ => true) true n4 3 ((((cs.drop 65).take 2).drop 0).take (Tryz.prog.cellsOf 3)) = some z0 := hf4 0 _ rfl
   rw [cellsInt] at g0
   have g1 : DataW.trod enc Tryz.prog W 0 (fun _ => true) true n4 3 ((((cs.drop 65).take 2).drop 1).take (Tryz.prog.cellsOf 3)) = some z1 := hf4 1 _ rfl
   rw [cellsInt] at g1
   obtain ⟨R, e4, i4⟩ := open_int1 g0
   obtain ⟨S, e5, i5⟩ := open_int1 g1
   have e45 : (cs.drop 65).take 2 = [.int .i64 R, .int .i64 S] := by
    clear h0 h1 h2 h3 g0 g1 hf hf4 e0 e1 e2
    rw [cellsSig] at hl4
    obtain ⟨u, v, huv⟩ := len_two hl4
    rw [huv] at e4 e5 ⊢
    simp at e4 e5
    rw [e4, e5]
   have q67 : cs.drop 67 = [] := List.drop_eq_nil_of_le (by omega)
   have q65 : cs.drop 65 = [.int .i64 R, .int .i64 S] := by rw [drop_parts cs 65 2 67 rfl, e45, q67]; rfl
   have q33 : cs.drop 33 = bv E ++ [.int .i64 R, .int .i64 S] := by rw [drop_parts cs 33 32 65 rfl, e2, q65]
   have q1 : cs.drop 1 = bv D ++ (bv E ++ [.int .i64 R, .int .i64 S]) := by rw [drop_parts cs 1 32 33 rfl, e1, q33]
   have q0 : cs.drop 0 = [.int .i64 no] ++ (bv D ++ (bv E ++ [.int .i64 R, .int .i64 S])) := by rw [drop_parts cs 0 1 1 rfl, e0, q1]
   exact ⟨⟨no, D, E, R, S⟩, ⟨i0, hD, hDu, hE, hEu, i4, i5⟩, q0⟩
theorem open_rts {fuel : Nat} {cs : List Value} {x : DataW H × List MemPlace} (h : DataW.trod enc Tryz.prog W 0 (fun _ => true) true fuel 67 cs = some x) : ∃ a n c l, cs = [.slice a n c] ∧ QS (fun _ => True) W a n c l :=
 open_rows (R := QV) Go.Dr.zeroR Tryz.underlying67 cellsRt (by decide) (fun h => by
  obtain ⟨y, ok, e⟩ := open_rt h
  exact ⟨y, ⟨ok, e⟩, by rw [e, rC_length ok]⟩) h
theorem cellsRl : Tryz.prog.cellsOf 67 = 1 := by kernel_rfl
end
end Go.Proofs.YtlpgjdlkjahdgaaGreatDoor

