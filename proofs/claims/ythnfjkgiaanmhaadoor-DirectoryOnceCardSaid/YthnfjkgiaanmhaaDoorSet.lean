/- directory.Set -/
import Derived.Test.YthnfjkgiaanmhaaDoorTck
namespace Go.Proofs.YthnfjkgiaanmhaaDoor
open Go.RowKit Go.Mem
open Go.Dr (Lst Rt Dir)

def SetPost (x : Dir × Int) (w : World) (e : Ending) (w' : World) : Prop :=
  (x.2 = 0 ∧ ∃ la ln lc ra rn rc, e = .returned (.tuple #[.agg (dirC x.1.priv la ln lc ra rn rc).toArray, .int .i64 0]) ∧ DM (fun b => w.heap.size ≤ b) w' x.1 la ln lc ra rn rc ∧ Below w.heap.size w w') ∨
  (x.2 ≠ 0 ∧ e = .returned (.tuple #[.agg (dirC 0 none 0 0 none 0 0).toArray, .int .i64 x.2]) ∧ Below w.heap.size w w')

theorem gs_rows {w : World} {l : List Lst} {rows : List (List Value)} (h : RowsOf 5 (GV w) l rows) : rows = l.map gC := by
  apply List.ext_getElem?
  intro i
  rw [List.getElem?_map]
  cases e : l[i]? with
  | none =>
    have : rows.length ≤ i := by rw [h.len]; exact List.getElem?_eq_none_iff.1 e
    rw [List.getElem?_eq_none this]; rfl
  | some x =>
    obtain ⟨r, hr, hv, _⟩ := h.get e
    rw [hr, hv.2]; rfl
theorem rows_gs (w : World) {l : List Lst} (h : ∀ x ∈ l, OkG x) : RowsOf 5 (GV w) l (l.map gC) :=
  ⟨by rw [List.length_map], by intro r hr; obtain ⟨x, _, rfl⟩ := List.mem_map.1 hr; rfl, fun i e r he hr => by
    rw [List.getElem?_map, he] at hr
    cases hr
    exact ⟨h e (List.mem_of_getElem? he), rfl⟩⟩
def gR (l : List Lst) : List Value := (l.map gC).flatten
theorem gR_one (l : List Lst) : ∀ u ∈ gR l, u.oneCell' = true := by
  intro u hu
  obtain ⟨r, hr, hu⟩ := List.mem_flatten.1 hu
  obtain ⟨x, _, rfl⟩ := List.mem_map.1 hr
  exact gC_one x u hu
theorem gR_sz (l : List Lst) : ∀ r ∈ l.map gC, r.length = 5 := by intro r hr; obtain ⟨x, _, rfl⟩ := List.mem_map.1 hr; rfl
theorem gR_len (l : List Lst) : (gR l).length = l.length * 5 := by unfold gR; rw [flat_len (gR_sz l), List.length_map]
theorem gR_take (l : List Lst) (k : Nat) : gR (l.take k) = (gR l).take (k * 5) := by unfold gR; rw [List.map_take, flat_take k (gR_sz l)]
theorem gR_drop (l : List Lst) (k : Nat) : gR (l.drop k) = (gR l).drop (k * 5) := by unfold gR; rw [List.map_drop, flat_drop k (gR_sz l)]
theorem gR_append (a b : List Lst) : gR (a ++ b) = gR a ++ gR b := by simp [gR]
theorem gR_cons (x : Lst) (b : List Lst) : gR (x :: b) = gC x ++ gR b := by simp [gR]
theorem GS.reads {K : Nat → Prop} {w : World} {a : Option Addr} {n c : Nat} {l : List Lst} (h : GS K w a n c l) : Sl.Reads w a n c 5 (gR l) := by
  obtain ⟨rows, hR, hO⟩ := h.rows
  rw [gs_rows hO] at hR
  exact hR
theorem GS.oks {K : Nat → Prop} {w : World} {a : Option Addr} {n c : Nat} {l : List Lst} (h : GS K w a n c l) : ∀ x ∈ l, OkG x := fun _ hx => h.ok hx
theorem own_gs {w : World} {B n : Nat} {v : Value} {l : List Lst} (h : w.ownsRow B 25 5 v n (gR l)) (hl : l.length = n) (ho : ∀ x ∈ l, OkG x) : ∃ a c, v = .slice a n c ∧ GS (fun b => B ≤ b) w a n c l := by
  obtain ⟨a, c, rfl, hR, hs⟩ := Sl.of_owns h
  exact ⟨a, c, rfl, hl, fun _ ad e => (hs ad e).1, _, hR, rows_gs w ho⟩
/-- a listing is stored in its place. -/
theorem put_place {w : World} {B n p : Nat} {v : Value} {l : List Lst} (h : w.ownsRow B 25 5 v n (gR l)) (hl : l.length = n) (hp : p < n) (x : Lst) :
    ∃ g cap, v = .slice (some ⟨g, 0, none⟩) n cap ∧ B ≤ g ∧ g < w.heap.size ∧ w.there g (p * 5) (gC x).toArray.size ∧ w.grownBy (w.setCells g (p * 5) (gC x)) (some g) ∧ (w.setCells g (p * 5) (gC x)).ownsRow B 25 5 v n (gR (l.set p x)) := by
  obtain ⟨g, cap, rest, rfl, hB, hgl, hg, hnc, hcm, hlen⟩ := Sl.owns_row h (by omega)
  have hB0 : Blk w g 25 (gR l ++ rest) := hg
  have hpl : p < l.length := by omega
  have e1 : gR l = (gR l).take (p * 5) ++ gC (l[p]) ++ (gR l).drop ((p + 1) * 5) := by
    conv => lhs; rw [← List.take_append_drop p l, List.drop_eq_getElem_cons hpl, gR_append, gR_cons, gR_take, gR_drop]
    rw [List.append_assoc]
  have e2 : gR (l.set p x) = (gR l).take (p * 5) ++ gC x ++ (gR l).drop ((p + 1) * 5) := by
    rw [List.set_eq_take_append_cons_drop, if_pos hpl, gR_append, gR_cons, gR_take, gR_drop, List.append_assoc]
  have ht : ((gR l).take (p * 5)).length = p * 5 := by rw [List.length_take, gR_len]; omega
  have hlen2 : (gR l ++ rest).length = cap * 5 := by rw [List.length_append]; exact hlen
  refine ⟨g, cap, rfl, hB, hgl, ?_, grown_setCells _ (World.grownBy.refl w _), ?_⟩
  · intro j hj
    have hj' : j < 5 := hj
    have := hB0.there (p * 5 + j) (by rw [hlen2]; omega)
    rw [Nat.zero_add] at this
    exact this
  · have hB1 : Blk w g 25 ((gR l).take (p * 5) ++ gC (l[p]) ++ ((gR l).drop ((p + 1) * 5) ++ rest)) := by
      rw [← List.append_assoc, ← e1]; exact hB0
    have hB2 := Blk.setCells (gC x) hB1 rfl
    rw [ht] at hB2
    rw [e2]
    refine Sl.owns_mk hB (rest := rest) (by rw [List.append_assoc _ _ rest]; exact hB2) ?_ hnc hcm ?_
    · rw [List.length_append, List.length_append, ht, List.length_drop, gR_len, gC_length]; omega
    · rw [List.length_append, List.length_append, ht, List.length_drop, gC_length]
      rw [List.length_append] at hlen2
      rw [gR_len] at hlen2 ⊢
      omega
theorem listing_slice1 (x : Lst) (W : World) : (Instr.buildSlice 33 1 #[(0, .agg (gC x).toArray)]).run Tryd.prog W = .ok (.slice (some ⟨W.heap.size, 0, none⟩) 1 1) (W.alloc (.cells (gC x).toArray 25)) := by kernel_rfl

set_option maxRecDepth 20000 in
set_option maxHeartbeats 4000000 in
theorem set_key (K : Nat → Prop) (D : Dir) (la : Option Addr) (ln lc : Nat) (ra : Option Addr) (rn rc : Nat) (x : Lst) (hx : OkG x) (w : World) (HT : Tabs w) (H : DM K w D la ln lc ra rn rc) (hk : keyOk D.priv = false) :
    Calls Tryd.prog 9 #[.agg (dirC D.priv la ln lc ra rn rc).toArray, .agg (gC x).toArray] w (fun e w' => e = .returned (.tuple #[.agg (dirC 0 none 0 0 none 0 0).toArray, .int .i64 50]) ∧ Below w.heap.size w w') := by
  suffices hh : ∀ X : Ending → World → Prop, (∀ W9, Below w.heap.size w W9 → X (.returned (.tuple #[.agg (dirC 0 none 0 0 none 0 0).toArray, .int .i64 50])) W9) → Calls Tryd.prog 9 #[.agg (dirC D.priv la ln lc ra rn rc).toArray, .agg (gC x).toArray] w X from hh _ (fun W9 h => ⟨rfl, h⟩)
  intro X hX0
  have hX := Lib.hid hX0
  clear hX0
  have HT' := Lib.hid HT; have hgs := Lib.hid H.gs; have hqs := Lib.hid H.qs; have hpr := Lib.hid H.pr; have hx' := Lib.hid hx
  obtain ⟨tb, htb⟩ : ∃ tb, Hid (w.heap.size = tb) := ⟨_, rfl⟩
  have hpv := Lib.hid (private_any D.priv)
  have hck := Lib.hid (dcheck_any K la ln lc D.ls)
  have hln : Hid (D.ls.length = ln) := RS.len H.gs
  have lnx : (ln : Int) ≤ 9223372036854775807 := by have := RS.le H.gs; have := RS.max H.gs; omega
  clear HT H hx
  go_enter Tryd.func9, Tryd.ntmps9
  go_upto_region 1 with fail
  rw [htb.out]
  generalize hW : World.alloc _ _ = W
  have hB : Hid (Blk W tb 36 (dirC D.priv la ln lc ra rn rc)) := by rw [← hW, ← htb.out]; exact ((Blk.new w _ (dirC D.priv la ln lc ra rn rc)).alloc _).alloc _
  have hG : Hid (Blk W (tb + 1) 25 (gC x)) := by
    rw [← hW, ← htb.out]
    have := (Blk.new (w.alloc (.cells (dirC D.priv la ln lc ra rn rc).toArray 36)) 25 (gC x)).alloc (.cells (dirC 0 none 0 0 none 0 0).toArray 36)
    rwa [World.size_alloc] at this
  have hZ : Hid (Blk W (tb + 1 + 1) 36 (dirC 0 none 0 0 none 0 0)) := by
    rw [← hW, ← htb.out]
    have := Blk.new ((w.alloc (.cells (dirC D.priv la ln lc ra rn rc).toArray 36)).alloc (.cells (gC x).toArray 25)) 36 (dirC 0 none 0 0 none 0 0)
    rwa [World.size_alloc, World.size_alloc] at this
  have hb : Hid (Below w.heap.size w W) := by rw [← hW]; exact (((Below.refl _ w).alloc (Nat.le_refl _) _).alloc (by simp) _).alloc (by simp; omega) _
  clear hW
  have c0 := hB.out.at_ (i := 0) (x := .int .i64 D.priv) rfl
  go_wp2_with fail
  refine (hpv.out _).mono ?_
  rintro e wx ⟨rfl, hwx⟩
  rw [hwx]
  clear hwx wx
  rw [hk]
  have hbv := hb; have hZv := hZ
  clear hb hZ hB hG c0
  obtain ⟨W9, hP⟩ := put_row (ty := 36) hZv.out (x := dirC 0 none 0 0 none 0 0) rfl sizeDr (by intro u hu; simp only [dirC, List.mem_cons, List.not_mem_nil, or_false] at hu; rcases hu with rfl | rfl | rfl <;> rfl)
  have hbk := Lib.hid hP.blk
  have hfin := Lib.hid (hX.out _ (below_grown hbv.out hP.grown hbv.out.size (by have := htb.out; omega)))
  have hP' := Lib.hid hP
  clear hP hX
  obtain ⟨z, hz⟩ : ∃ z, Hid (dirC 0 none 0 0 none 0 0 = z) := ⟨_, rfl⟩
  have hzr := Lib.hid hZv.out.range
  have hzi : Hid ((Tryd.prog.info? 36).map (·.size) = some (dirC 0 none 0 0 none 0 0).length) := sizeDr
  rw [hz.out] at hP' hzr hzi hbk hfin
  clear hZv hbv
  go_wp2_with (first
    | (refine wpList_load_mid (by rfl) 36 (.tmp 4) (by rfl) (tb + 1 + 1) 0 (by rfl) z _ hzr.out Tryd.underlying36 (by rfl) hzi.out ?_)
    | (refine wpList_store_mid (by rfl) 36 (.tmp 4) (.tmp 14) (by rfl) (tb + 1 + 1) 0 z.toArray (by rfl) (by rfl) hP'.out.there hP'.out.info (by simpa using hP'.out.one) ?_
       generalize hWq : World.setCells _ _ _ _ = Wa
       obtain rfl : W9 = Wa := by rw [← hWq]; exact hP'.out.eq
       clear hWq))
  refine ret_cell_tmp (p := 4) (u := 5) rfl hbk.out Tryd.underlying36 rfl hzi.out rfl rfl rfl ?_
  exact hfin.out

set_option maxRecDepth 20000 in
set_option maxHeartbeats 4000000 in
theorem set_chk (K : Nat → Prop) (D : Dir) (la : Option Addr) (ln lc : Nat) (ra : Option Addr) (rn rc : Nat) (x : Lst) (hx : OkG x) (w : World) (HT : Tabs w) (H : DM K w D la ln lc ra rn rc) (hk : keyOk D.priv = true) (hc : Go.Dr.chkL D.ls = false) :
    Calls Tryd.prog 9 #[.agg (dirC D.priv la ln lc ra rn rc).toArray, .agg (gC x).toArray] w (fun e w' => e = .returned (.tuple #[.agg (dirC 0 none 0 0 none 0 0).toArray, .int .i64 350]) ∧ Below w.heap.size w w') := by
  suffices hh : ∀ X : Ending → World → Prop, (∀ W9, Below w.heap.size w W9 → X (.returned (.tuple #[.agg (dirC 0 none 0 0 none 0 0).toArray, .int .i64 350])) W9) → Calls Tryd.prog 9 #[.agg (dirC D.priv la ln lc ra rn rc).toArray, .agg (gC x).toArray] w X from hh _ (fun W9 h => ⟨rfl, h⟩)
  intro X hX0
  have hX := Lib.hid hX0
  clear hX0
  have HT' := Lib.hid HT; have hgs := Lib.hid H.gs; have hqs := Lib.hid H.qs; have hpr := Lib.hid H.pr; have hx' := Lib.hid hx
  obtain ⟨tb, htb⟩ : ∃ tb, Hid (w.heap.size = tb) := ⟨_, rfl⟩
  have hpv := Lib.hid (private_any D.priv)
  have hck := Lib.hid (dcheck_any K la ln lc D.ls)
  have hln : Hid (D.ls.length = ln) := RS.len H.gs
  have lnx : (ln : Int) ≤ 9223372036854775807 := by have := RS.le H.gs; have := RS.max H.gs; omega
  clear HT H hx
  go_enter Tryd.func9, Tryd.ntmps9
  go_upto_region 1 with fail
  rw [htb.out]
  generalize hW : World.alloc _ _ = W
  have hB : Hid (Blk W tb 36 (dirC D.priv la ln lc ra rn rc)) := by rw [← hW, ← htb.out]; exact ((Blk.new w _ (dirC D.priv la ln lc ra rn rc)).alloc _).alloc _
  have hG : Hid (Blk W (tb + 1) 25 (gC x)) := by
    rw [← hW, ← htb.out]
    have := (Blk.new (w.alloc (.cells (dirC D.priv la ln lc ra rn rc).toArray 36)) 25 (gC x)).alloc (.cells (dirC 0 none 0 0 none 0 0).toArray 36)
    rwa [World.size_alloc] at this
  have hZ : Hid (Blk W (tb + 1 + 1) 36 (dirC 0 none 0 0 none 0 0)) := by
    rw [← hW, ← htb.out]
    have := Blk.new ((w.alloc (.cells (dirC D.priv la ln lc ra rn rc).toArray 36)).alloc (.cells (gC x).toArray 25)) 36 (dirC 0 none 0 0 none 0 0)
    rwa [World.size_alloc, World.size_alloc] at this
  have hb : Hid (Below w.heap.size w W) := by rw [← hW]; exact (((Below.refl _ w).alloc (Nat.le_refl _) _).alloc (by simp) _).alloc (by simp; omega) _
  clear hW
  have c0 := hB.out.at_ (i := 0) (x := .int .i64 D.priv) rfl
  go_wp2_with fail
  refine (hpv.out _).mono ?_
  rintro e wx ⟨rfl, hwx⟩
  rw [hwx]
  clear hwx wx
  rw [hk]
  have c1 := hB.out.at_ (i := 1) (x := .slice la ln lc) rfl
  go_wp2_with fail
  refine (hck.out _ (hgs.out.below hb.out)).mono ?_
  rintro e w1 ⟨rfl, hb1⟩
  have hB1 := Lib.hid (hB.out.below hb1 hB.out.lt)
  have hG1 := Lib.hid (hG.out.below hb1 hG.out.lt)
  have hZ1 := Lib.hid (hZ.out.below hb1 hZ.out.lt)
  have hb1' := Lib.hid (hb.out.trans (hb1.mono hb.out.size))
  clear hb1 hB hG hZ hb c0 c1
  rw [hc]
  have hbv := hb1'; have hZv := hZ1
  clear hb1' hZ1 hB1 hG1
  rw [if_neg (by simp)]
  obtain ⟨W9, hP⟩ := put_row (ty := 36) hZv.out (x := dirC 0 none 0 0 none 0 0) rfl sizeDr (by intro u hu; simp only [dirC, List.mem_cons, List.not_mem_nil, or_false] at hu; rcases hu with rfl | rfl | rfl <;> rfl)
  have hbk := Lib.hid hP.blk
  have hfin := Lib.hid (hX.out _ (below_grown hbv.out hP.grown hbv.out.size (by have := htb.out; omega)))
  have hP' := Lib.hid hP
  clear hP hX
  obtain ⟨z, hz⟩ : ∃ z, Hid (dirC 0 none 0 0 none 0 0 = z) := ⟨_, rfl⟩
  have hzr := Lib.hid hZv.out.range
  have hzi : Hid ((Tryd.prog.info? 36).map (·.size) = some (dirC 0 none 0 0 none 0 0).length) := sizeDr
  rw [hz.out] at hP' hzr hzi hbk hfin
  clear hZv hbv
  go_wp2_with (first
    | (refine wpList_load_mid (by rfl) 36 (.tmp 4) (by rfl) (tb + 1 + 1) 0 (by rfl) z _ hzr.out Tryd.underlying36 (by rfl) hzi.out ?_)
    | (refine wpList_store_mid (by rfl) 36 (.tmp 4) (.tmp 20) (by rfl) (tb + 1 + 1) 0 z.toArray (by rfl) (by rfl) hP'.out.there hP'.out.info (by simpa using hP'.out.one) ?_
       generalize hWq : World.setCells _ _ _ _ = Wa
       obtain rfl : W9 = Wa := by rw [← hWq]; exact hP'.out.eq
       clear hWq))
  refine ret_cell_tmp (p := 4) (u := 5) rfl hbk.out Tryd.underlying36 rfl hzi.out rfl rfl rfl ?_
  exact hfin.out

set_option maxRecDepth 20000 in
set_option maxHeartbeats 4000000 in
theorem set_unfit (K : Nat → Prop) (D : Dir) (la : Option Addr) (ln lc : Nat) (ra : Option Addr) (rn rc : Nat) (x : Lst) (hx : OkG x) (w : World) (HT : Tabs w) (H : DM K w D la ln lc ra rn rc) (hk : keyOk D.priv = true) (hc : Go.Dr.chkL D.ls = true) (hf : Go.Dr.fitsB x = false) :
    Calls Tryd.prog 9 #[.agg (dirC D.priv la ln lc ra rn rc).toArray, .agg (gC x).toArray] w (fun e w' => e = .returned (.tuple #[.agg (dirC 0 none 0 0 none 0 0).toArray, .int .i64 350]) ∧ Below w.heap.size w w') := by
  suffices hh : ∀ X : Ending → World → Prop, (∀ W9, Below w.heap.size w W9 → X (.returned (.tuple #[.agg (dirC 0 none 0 0 none 0 0).toArray, .int .i64 350])) W9) → Calls Tryd.prog 9 #[.agg (dirC D.priv la ln lc ra rn rc).toArray, .agg (gC x).toArray] w X from hh _ (fun W9 h => ⟨rfl, h⟩)
  intro X hX0
  have hX := Lib.hid hX0
  clear hX0
  have HT' := Lib.hid HT; have hgs := Lib.hid H.gs; have hqs := Lib.hid H.qs; have hpr := Lib.hid H.pr; have hx' := Lib.hid hx
  obtain ⟨tb, htb⟩ : ∃ tb, Hid (w.heap.size = tb) := ⟨_, rfl⟩
  have hpv := Lib.hid (private_any D.priv)
  have hck := Lib.hid (dcheck_any K la ln lc D.ls)
  have hln : Hid (D.ls.length = ln) := RS.len H.gs
  have lnx : (ln : Int) ≤ 9223372036854775807 := by have := RS.le H.gs; have := RS.max H.gs; omega
  clear HT H hx
  go_enter Tryd.func9, Tryd.ntmps9
  go_upto_region 1 with fail
  rw [htb.out]
  generalize hW : World.alloc _ _ = W
  have hB : Hid (Blk W tb 36 (dirC D.priv la ln lc ra rn rc)) := by rw [← hW, ← htb.out]; exact ((Blk.new w _ (dirC D.priv la ln lc ra rn rc)).alloc _).alloc _
  have hG : Hid (Blk W (tb + 1) 25 (gC x)) := by
    rw [← hW, ← htb.out]
    have := (Blk.new (w.alloc (.cells (dirC D.priv la ln lc ra rn rc).toArray 36)) 25 (gC x)).alloc (.cells (dirC 0 none 0 0 none 0 0).toArray 36)
    rwa [World.size_alloc] at this
  have hZ : Hid (Blk W (tb + 1 + 1) 36 (dirC 0 none 0 0 none 0 0)) := by
    rw [← hW, ← htb.out]
    have := Blk.new ((w.alloc (.cells (dirC D.priv la ln lc ra rn rc).toArray 36)).alloc (.cells (gC x).toArray 25)) 36 (dirC 0 none 0 0 none 0 0)
    rwa [World.size_alloc, World.size_alloc] at this
  have hb : Hid (Below w.heap.size w W) := by rw [← hW]; exact (((Below.refl _ w).alloc (Nat.le_refl _) _).alloc (by simp) _).alloc (by simp; omega) _
  clear hW
  have c0 := hB.out.at_ (i := 0) (x := .int .i64 D.priv) rfl
  go_wp2_with fail
  refine (hpv.out _).mono ?_
  rintro e wx ⟨rfl, hwx⟩
  rw [hwx]
  clear hwx wx
  rw [hk]
  have c1 := hB.out.at_ (i := 1) (x := .slice la ln lc) rfl
  go_wp2_with fail
  refine (hck.out _ (hgs.out.below hb.out)).mono ?_
  rintro e w1 ⟨rfl, hb1⟩
  have hB1 := Lib.hid (hB.out.below hb1 hB.out.lt)
  have hG1 := Lib.hid (hG.out.below hb1 hG.out.lt)
  have hZ1 := Lib.hid (hZ.out.below hb1 hZ.out.lt)
  have hb1' := Lib.hid (hb.out.trans (hb1.mono hb.out.size))
  clear hb1 hB hG hZ hb c0 c1
  rw [hc]
  rw [if_pos rfl]
  have d1 := hB1.out.at_ (i := 1) (x := .slice la ln lc) rfl
  have g0 := hG1.out.at_ (i := 0) (x := .int .i64 x.dev) rfl
  have hvs : Hid (Go.Dr.oldV D.ls x.dev = (Go.Dr.ofX D.ls x.dev).vers ∧ 0 ≤ (Go.Dr.ofX D.ls x.dev).vers ∧ (Go.Dr.ofX D.ls x.dev).vers ≤ 1048576) := by
    unfold Go.Dr.oldV Go.Dr.ofX
    cases e : Go.Dr.ofL D.ls x.dev with
    | none => exact ⟨rfl, by show (0 : Int) ≤ 0; decide, by show (0 : Int) ≤ 1048576; decide⟩
    | some y =>
      obtain ⟨j, hj⟩ := List.mem_iff_getElem?.1 (List.mem_of_find?_eq_some e)
      have := Go.Dr.fits_vers (Go.Dr.chk_lt hc j y hj).2
      exact ⟨rfl, by show 0 ≤ y.vers; omega, this.2⟩
  have hox : Hid (OkG (Go.Dr.ofX D.ls x.dev)) := ofX_ok hgs.out hx'.out.dev
  obtain ⟨y, hy⟩ : ∃ y, Hid (Go.Dr.ofX D.ls x.dev = y) := ⟨_, rfl⟩
  obtain ⟨q, hq⟩ : ∃ q, Hid ((Go.Dr.ofL D.ls x.dev).isSome = q) := ⟨_, rfl⟩
  obtain ⟨ry, hry⟩ : ∃ ry, Hid (gC y = ry) := ⟨_, rfl⟩
  have hof : Hid (Calls Tryd.prog 21 #[.slice la ln lc, .int .i64 x.dev] w1 (fun e w' => e = .returned (.tuple #[.agg ry.toArray, .bool q]) ∧ Below w1.heap.size w1 w')) := by
    have h := of_any K la ln lc D.ls x.dev w1 (hgs.out.below hb1'.out)
    unfold OfPost at h
    rw [hy.out, hq.out, hry.out] at h
    exact h
  rw [hy.out] at hvs hox
  go_wp2_with fail
  refine hof.out.mono ?_
  rintro e w2 ⟨rfl, hb2⟩
  obtain ⟨W3, hP, hb3⟩ := box_g w2 y
  have hb23 := hb2.trans (hb3.mono hb2.size)
  have hB3 := Lib.hid (hB1.out.below hb23 hB1.out.lt)
  have hG3 := Lib.hid (hG1.out.below hb23 hG1.out.lt)
  have hZ3 := Lib.hid (hZ1.out.below hb23 hZ1.out.lt)
  have hb3' := Lib.hid (hb1'.out.trans (hb23.mono hb1'.out.size))
  obtain ⟨xb, hxb⟩ : ∃ xb, Hid (w2.heap.size = xb) := ⟨_, rfl⟩
  have hxt : Hid (tb + 1 + 1 < xb) := by have := hZ1.out.lt; have := hb2.size; have := hxb.out; show _ < _; omega
  have hP' := Lib.hid hP
  have hY3 := Lib.hid hP.blk
  rw [hxb.out] at hP' hY3
  have hgr := Lib.hid hG3.out.range
  have hgi : Hid ((Tryd.prog.info? 25).map (·.size) = some (gC x).length) := sizeG
  have hft := Lib.hid (fits_any x W3)
  obtain ⟨rx, hrx⟩ : ∃ rx, Hid (gC x = rx) := ⟨_, rfl⟩
  rw [hrx.out] at hgr hgi hft
  rw [hry.out] at hP'
  clear hP hb2 hb3 hb23 hB1 hG1 hZ1 hb1' d1 g0 hof hck
  obtain ⟨vx, hvx⟩ : ∃ v, Hid (x.vers = v) := ⟨_, rfl⟩
  obtain ⟨vy, hvy⟩ : ∃ v, Hid (y.vers = v) := ⟨_, rfl⟩
  rw [hvy.out] at hvs
  have vy0 := hvs.out.2.1
  have vy1 := hvs.out.2.2
  rw [hf] at hft
  obtain ⟨z, hz⟩ : ∃ z, Hid (dirC 0 none 0 0 none 0 0 = z) := ⟨_, rfl⟩
  go_wp2_with (first
    | (rw [hxb.out]; refine wpList_store_mid (by rfl) 25 (.tmp 6) (.tmp 28) (by rfl) xb 0 ry.toArray (by rfl) (by rfl) hP'.out.there hP'.out.info (by simpa using hP'.out.one) ?_
       generalize hWq : World.setCells _ _ _ _ = Wa
       obtain rfl : W3 = Wa := by rw [← hWq]; exact hP'.out.eq
       clear hWq)
    | (refine wpList_load_mid (by rfl) 25 (.tmp 3) (by rfl) (tb + 1) 0 (by rfl) rx _ hgr.out Tryd.underlying25 (by rfl) hgi.out ?_)
    | (refine hft.out.mono ?_
       rintro e w4 ⟨rfl, hb4⟩
       have hG4 := hG3.out.below hb4 hG3.out.lt
       have hY4 := hY3.out.below hb4 hY3.out.lt
       have hB4 := hB3.out.below hb4 hB3.out.lt
       have hZ4 := hZ3.out.below hb4 hZ3.out.lt
       have hb4' := hb3'.out.trans (hb4.mono hb3'.out.size)
       have k3 := hG4.at_ (i := 3) (x := .int .i64 vx) (by rw [← hvx.out]; rfl)
       have k6 := hY4.at_ (i := 3) (x := .int .i64 vy) (by rw [← hvy.out]; rfl)
       obtain ⟨W9, hP9⟩ := put_row (ty := 36) hZ4 (x := dirC 0 none 0 0 none 0 0) rfl sizeDr (by intro u hu; simp only [dirC, List.mem_cons, List.not_mem_nil, or_false] at hu; rcases hu with rfl | rfl | rfl <;> rfl)
       have hbk := Lib.hid hP9.blk
       have hfin := Lib.hid (hX.out _ (below_grown hb4' hP9.grown hb4'.size (by have := htb.out; omega)))
       have hP9' := Lib.hid hP9
       have hzr := Lib.hid hZ4.range
       have hzi : Hid ((Tryd.prog.info? 36).map (·.size) = some (dirC 0 none 0 0 none 0 0).length) := sizeDr
       rw [hz.out] at hP9' hzr hzi hbk hfin
       clear hP9 hZ4 hb4' hB4)
    | (refine wpList_load_mid (by rfl) 36 (.tmp 4) (by rfl) (tb + 1 + 1) 0 (by rfl) z _ hzr.out Tryd.underlying36 (by rfl) hzi.out ?_)
    | (refine wpList_store_mid (by rfl) 36 (.tmp 4) (.tmp 41) (by rfl) (tb + 1 + 1) 0 z.toArray (by rfl) (by rfl) hP9'.out.there hP9'.out.info (by simpa using hP9'.out.one) ?_
       generalize hWq : World.setCells _ _ _ _ = Wa
       obtain rfl : W9 = Wa := by rw [← hWq]; exact hP9'.out.eq
       clear hWq))
  refine ret_cell_tmp (p := 4) (u := 5) rfl hbk.out Tryd.underlying36 rfl hzi.out rfl rfl rfl ?_
  exact hfin.out

set_option maxRecDepth 20000 in
set_option maxHeartbeats 4000000 in
theorem set_old (K : Nat → Prop) (D : Dir) (la : Option Addr) (ln lc : Nat) (ra : Option Addr) (rn rc : Nat) (x : Lst) (hx : OkG x) (w : World) (HT : Tabs w) (H : DM K w D la ln lc ra rn rc) (hk : keyOk D.priv = true) (hc : Go.Dr.chkL D.ls = true) (hf : Go.Dr.fitsB x = true) (hv : x.vers ≠ Go.Dr.oldV D.ls x.dev + 1) :
    Calls Tryd.prog 9 #[.agg (dirC D.priv la ln lc ra rn rc).toArray, .agg (gC x).toArray] w (fun e w' => e = .returned (.tuple #[.agg (dirC 0 none 0 0 none 0 0).toArray, .int .i64 350]) ∧ Below w.heap.size w w') := by
  suffices hh : ∀ X : Ending → World → Prop, (∀ W9, Below w.heap.size w W9 → X (.returned (.tuple #[.agg (dirC 0 none 0 0 none 0 0).toArray, .int .i64 350])) W9) → Calls Tryd.prog 9 #[.agg (dirC D.priv la ln lc ra rn rc).toArray, .agg (gC x).toArray] w X from hh _ (fun W9 h => ⟨rfl, h⟩)
  intro X hX0
  have hX := Lib.hid hX0
  clear hX0
  have HT' := Lib.hid HT; have hgs := Lib.hid H.gs; have hqs := Lib.hid H.qs; have hpr := Lib.hid H.pr; have hx' := Lib.hid hx
  obtain ⟨tb, htb⟩ : ∃ tb, Hid (w.heap.size = tb) := ⟨_, rfl⟩
  have hpv := Lib.hid (private_any D.priv)
  have hck := Lib.hid (dcheck_any K la ln lc D.ls)
  have hln : Hid (D.ls.length = ln) := RS.len H.gs
  have lnx : (ln : Int) ≤ 9223372036854775807 := by have := RS.le H.gs; have := RS.max H.gs; omega
  clear HT H hx
  go_enter Tryd.func9, Tryd.ntmps9
  go_upto_region 1 with fail
  rw [htb.out]
  generalize hW : World.alloc _ _ = W
  have hB : Hid (Blk W tb 36 (dirC D.priv la ln lc ra rn rc)) := by rw [← hW, ← htb.out]; exact ((Blk.new w _ (dirC D.priv la ln lc ra rn rc)).alloc _).alloc _
  have hG : Hid (Blk W (tb + 1) 25 (gC x)) := by
    rw [← hW, ← htb.out]
    have := (Blk.new (w.alloc (.cells (dirC D.priv la ln lc ra rn rc).toArray 36)) 25 (gC x)).alloc (.cells (dirC 0 none 0 0 none 0 0).toArray 36)
    rwa [World.size_alloc] at this
  have hZ : Hid (Blk W (tb + 1 + 1) 36 (dirC 0 none 0 0 none 0 0)) := by
    rw [← hW, ← htb.out]
    have := Blk.new ((w.alloc (.cells (dirC D.priv la ln lc ra rn rc).toArray 36)).alloc (.cells (gC x).toArray 25)) 36 (dirC 0 none 0 0 none 0 0)
    rwa [World.size_alloc, World.size_alloc] at this
  have hb : Hid (Below w.heap.size w W) := by rw [← hW]; exact (((Below.refl _ w).alloc (Nat.le_refl _) _).alloc (by simp) _).alloc (by simp; omega) _
  clear hW
  have c0 := hB.out.at_ (i := 0) (x := .int .i64 D.priv) rfl
  go_wp2_with fail
  refine (hpv.out _).mono ?_
  rintro e wx ⟨rfl, hwx⟩
  rw [hwx]
  clear hwx wx
  rw [hk]
  have c1 := hB.out.at_ (i := 1) (x := .slice la ln lc) rfl
  go_wp2_with fail
  refine (hck.out _ (hgs.out.below hb.out)).mono ?_
  rintro e w1 ⟨rfl, hb1⟩
  have hB1 := Lib.hid (hB.out.below hb1 hB.out.lt)
  have hG1 := Lib.hid (hG.out.below hb1 hG.out.lt)
  have hZ1 := Lib.hid (hZ.out.below hb1 hZ.out.lt)
  have hb1' := Lib.hid (hb.out.trans (hb1.mono hb.out.size))
  clear hb1 hB hG hZ hb c0 c1
  rw [hc]
  rw [if_pos rfl]
  have d1 := hB1.out.at_ (i := 1) (x := .slice la ln lc) rfl
  have g0 := hG1.out.at_ (i := 0) (x := .int .i64 x.dev) rfl
  have hvs : Hid (Go.Dr.oldV D.ls x.dev = (Go.Dr.ofX D.ls x.dev).vers ∧ 0 ≤ (Go.Dr.ofX D.ls x.dev).vers ∧ (Go.Dr.ofX D.ls x.dev).vers ≤ 1048576) := by
    unfold Go.Dr.oldV Go.Dr.ofX
    cases e : Go.Dr.ofL D.ls x.dev with
    | none => exact ⟨rfl, by show (0 : Int) ≤ 0; decide, by show (0 : Int) ≤ 1048576; decide⟩
    | some y =>
      obtain ⟨j, hj⟩ := List.mem_iff_getElem?.1 (List.mem_of_find?_eq_some e)
      have := Go.Dr.fits_vers (Go.Dr.chk_lt hc j y hj).2
      exact ⟨rfl, by show 0 ≤ y.vers; omega, this.2⟩
  have hox : Hid (OkG (Go.Dr.ofX D.ls x.dev)) := ofX_ok hgs.out hx'.out.dev
  obtain ⟨y, hy⟩ : ∃ y, Hid (Go.Dr.ofX D.ls x.dev = y) := ⟨_, rfl⟩
  obtain ⟨q, hq⟩ : ∃ q, Hid ((Go.Dr.ofL D.ls x.dev).isSome = q) := ⟨_, rfl⟩
  obtain ⟨ry, hry⟩ : ∃ ry, Hid (gC y = ry) := ⟨_, rfl⟩
  have hof : Hid (Calls Tryd.prog 21 #[.slice la ln lc, .int .i64 x.dev] w1 (fun e w' => e = .returned (.tuple #[.agg ry.toArray, .bool q]) ∧ Below w1.heap.size w1 w')) := by
    have h := of_any K la ln lc D.ls x.dev w1 (hgs.out.below hb1'.out)
    unfold OfPost at h
    rw [hy.out, hq.out, hry.out] at h
    exact h
  rw [hy.out] at hvs hox
  go_wp2_with fail
  refine hof.out.mono ?_
  rintro e w2 ⟨rfl, hb2⟩
  obtain ⟨W3, hP, hb3⟩ := box_g w2 y
  have hb23 := hb2.trans (hb3.mono hb2.size)
  have hB3 := Lib.hid (hB1.out.below hb23 hB1.out.lt)
  have hG3 := Lib.hid (hG1.out.below hb23 hG1.out.lt)
  have hZ3 := Lib.hid (hZ1.out.below hb23 hZ1.out.lt)
  have hb3' := Lib.hid (hb1'.out.trans (hb23.mono hb1'.out.size))
  obtain ⟨xb, hxb⟩ : ∃ xb, Hid (w2.heap.size = xb) := ⟨_, rfl⟩
  have hxt : Hid (tb + 1 + 1 < xb) := by have := hZ1.out.lt; have := hb2.size; have := hxb.out; show _ < _; omega
  have hP' := Lib.hid hP
  have hY3 := Lib.hid hP.blk
  rw [hxb.out] at hP' hY3
  have hgr := Lib.hid hG3.out.range
  have hgi : Hid ((Tryd.prog.info? 25).map (·.size) = some (gC x).length) := sizeG
  have hft := Lib.hid (fits_any x W3)
  obtain ⟨rx, hrx⟩ : ∃ rx, Hid (gC x = rx) := ⟨_, rfl⟩
  rw [hrx.out] at hgr hgi hft
  rw [hry.out] at hP'
  clear hP hb2 hb3 hb23 hB1 hG1 hZ1 hb1' d1 g0 hof hck
  obtain ⟨vx, hvx⟩ : ∃ v, Hid (x.vers = v) := ⟨_, rfl⟩
  obtain ⟨vy, hvy⟩ : ∃ v, Hid (y.vers = v) := ⟨_, rfl⟩
  rw [hvy.out] at hvs
  have vy0 := hvs.out.2.1
  have vy1 := hvs.out.2.2
  rw [hf] at hft
  have hne : (vx == vy + 1) = false := by
    rw [hvs.out.1, hvx.out] at hv
    simpa using hv
  clear hv
  obtain ⟨z, hz⟩ : ∃ z, Hid (dirC 0 none 0 0 none 0 0 = z) := ⟨_, rfl⟩
  go_wp2_with (first
    | (rw [hxb.out]; refine wpList_store_mid (by rfl) 25 (.tmp 6) (.tmp 28) (by rfl) xb 0 ry.toArray (by rfl) (by rfl) hP'.out.there hP'.out.info (by simpa using hP'.out.one) ?_
       generalize hWq : World.setCells _ _ _ _ = Wa
       obtain rfl : W3 = Wa := by rw [← hWq]; exact hP'.out.eq
       clear hWq)
    | (refine wpList_load_mid (by rfl) 25 (.tmp 3) (by rfl) (tb + 1) 0 (by rfl) rx _ hgr.out Tryd.underlying25 (by rfl) hgi.out ?_)
    | (refine hft.out.mono ?_
       rintro e w4 ⟨rfl, hb4⟩
       have hG4 := hG3.out.below hb4 hG3.out.lt
       have hY4 := hY3.out.below hb4 hY3.out.lt
       have hB4 := hB3.out.below hb4 hB3.out.lt
       have hZ4 := hZ3.out.below hb4 hZ3.out.lt
       have hb4' := hb3'.out.trans (hb4.mono hb3'.out.size)
       have k3 := hG4.at_ (i := 3) (x := .int .i64 vx) (by rw [← hvx.out]; rfl)
       have k6 := hY4.at_ (i := 3) (x := .int .i64 vy) (by rw [← hvy.out]; rfl)
       obtain ⟨W9, hP9⟩ := put_row (ty := 36) hZ4 (x := dirC 0 none 0 0 none 0 0) rfl sizeDr (by intro u hu; simp only [dirC, List.mem_cons, List.not_mem_nil, or_false] at hu; rcases hu with rfl | rfl | rfl <;> rfl)
       have hbk := Lib.hid hP9.blk
       have hfin := Lib.hid (hX.out _ (below_grown hb4' hP9.grown hb4'.size (by have := htb.out; omega)))
       have hP9' := Lib.hid hP9
       have hzr := Lib.hid hZ4.range
       have hzi : Hid ((Tryd.prog.info? 36).map (·.size) = some (dirC 0 none 0 0 none 0 0).length) := sizeDr
       rw [hz.out] at hP9' hzr hzi hbk hfin
       clear hP9 hZ4 hb4' hB4)
    | (refine wpList_load_mid (by rfl) 36 (.tmp 4) (by rfl) (tb + 1 + 1) 0 (by rfl) z _ hzr.out Tryd.underlying36 (by rfl) hzi.out ?_)
    | (refine wpList_store_mid (by rfl) 36 (.tmp 4) (.tmp 41) (by rfl) (tb + 1 + 1) 0 z.toArray (by rfl) (by rfl) hP9'.out.there hP9'.out.info (by simpa using hP9'.out.one) ?_
       generalize hWq : World.setCells _ _ _ _ = Wa
       obtain rfl : W9 = Wa := by rw [← hWq]; exact hP9'.out.eq
       clear hWq))
  refine ret_cell_tmp (p := 4) (u := 5) rfl hbk.out Tryd.underlying36 rfl hzi.out rfl rfl rfl ?_
  exact hfin.out

end Go.Proofs.YthnfjkgiaanmhaaDoor
