/- the reference 35: Tick -/
import Derived.Test.YthhblcbnnmoojaaGreatDoorFe
import Derived.Test.YthhblcbnnmoojaaGreatDoorRc
namespace Go.Proofs.YthhblcbnnmoojaaGreatDoor
open Go.RowKit Go.Mem
open Go.Dr (Lst Rt Dir)

theorem r5sign_any (x : Int) (a : Option Addr) (n c : Nat) (l : List Nat) (w : World) (H : BW w a n c l) (hn : n ≤ 140737488354000) :
 Calls Tryz.prog 64 #[.int .i64 x, .slice a n c] w (SignPost (signK 4 x l) w) :=
 r5sign_b 4 base_ok r4base_any x a n c l w H hn
theorem empty_roots (W : World) : (Instr.buildSlice 32 0 #[]).run Tryz.prog W = .ok (.slice (some ⟨W.heap.size, 0, none⟩) 0 0) (W.alloc (.cells #[] 27)) := by kernel_rfl
theorem own_newR (W : World) : (W.alloc (.cells #[] 27)).ownsRow W.heap.size 27 67 (.slice (some ⟨W.heap.size, 0, none⟩) 0 0) 0 [] :=
 ⟨rfl, Or.inr ⟨W.heap.size, 0, #[], rfl, Nat.le_refl _, heap_alloc_new W _, Nat.le_refl _, by unfold maxLen; omega, rfl, rfl⟩⟩
theorem append_rs {w : World} {B : Nat} {v : Value} {k : Nat} {xs : List Value} (hown : w.ownsRow B 27 67 v k xs) {a : Option Addr} {n c : Nat} {ys : List Value} (hc : ∀ b, a = some b → ∀ j u, ys[j]? = some u → w.cell? (b.add j) = some u) (hnil : a = none → n = 0) (hlen : ys.length = n * 67) (hone : ∀ u ∈ ys, u.oneCell' = true) (hn : k + n ≤ 1000000) (hB : B ≤ w.heap.size) :
 ∃ v' w', (∀ ty, (Builtin.append_ #[32, 32] ty #[v, .slice a n c]).run Tryz.prog w = .ok v' w') ∧ w'.ownsRow B 27 67 v' (k + n) (xs ++ ys) ∧ w.grownBy w' v.ownBlock := by
 obtain ⟨i0, hi, hz0, hz1, hz2⟩ := info_parts infoR
 match a with
 | none =>
  obtain rfl := hnil rfl
  obtain rfl : ys = [] := List.eq_nil_of_length_eq_zero (by omega)
  refine ⟨v, w, fun ty => ?_, by rw [List.append_nil]; exact hown, World.grownBy.refl w _⟩
  rcases hown.2 with ⟨rfl, rfl⟩ | ⟨g, cap, cur, rfl, _, _, hnc, _, _, _⟩
  · simp [Builtin.append_, run_underlying Tryz.underlying32, sizeOf, typeInfo, hi, Builtin.lenOf, Builtin.firstCells]
  · simp [Builtin.append_, run_underlying Tryz.underlying32, sizeOf, typeInfo, hi, Builtin.lenOf, Builtin.firstCells, storeCells, hnc]
 | some ad =>
  obtain ⟨v', w', hr, h2, h3, _⟩ := run_append_own (P := Tryz.prog) w B 32 0 27 i0 _ 67 88 Tryz.underlying32 hi hz0 hz1 hz2 rfl (by omega) v k xs hown ad n c ys hlen (hc ad rfl) hone (by unfold maxLen; omega) (by omega) hB
  exact ⟨v', w', fun ty => by rw [← hr]; rfl, h2, h3⟩
theorem ThW.nextB {w wz wq : World} {tb g B : Nat} {p : Int} {la : Option Addr} {ln lc : Nat} {z R : List Value} (h : ThW w tb p la ln lc z g R wz) (hb : Below B wz wq) (h1 : tb + 1 < B) (h2 : g < B) (h3 : w.heap.size ≤ B) : ThW w tb p la ln lc z g R wq := by
 obtain ⟨a, n, c, hB⟩ := h.1
 exact ⟨⟨a, n, c, hB.below hb (by omega)⟩, h.2.1.below hb h1, h.2.2.1.below hb h2, h.2.2.2.trans (hb.mono h3)⟩

theorem rows_oneR {w : World} {l : List Rt} {rows : List (List Value)} (h : RowsOf 67 (QV w) l rows) : ∀ u ∈ rows.flatten, u.oneCell' = true := by
 intro u hu
 obtain ⟨r, hr, hu⟩ := List.mem_flatten.1 hu
 obtain ⟨i, hi⟩ := List.mem_iff_getElem?.1 hr
 have hil : i < l.length := by rw [← h.len]; exact (List.getElem?_eq_some_iff.1 hi).1
 have := h.each i l[i] r (List.getElem?_eq_getElem hil) hi
 rw [this.2] at hu
 exact rC_one _ u hu
set_option maxRecDepth 20000 in
set_option maxHeartbeats 2000000 in
theorem r35tick_key (K : Nat → Prop) (D : Dir) (la : Option Addr) (ln lc : Nat) (ra : Option Addr) (rn rc : Nat) (w : World) (HT : Tabs w) (H : DM K w D la ln lc ra rn rc) (hk : keyOk D.priv = false) :
 Calls Tryz.prog 20 #[.agg (dirC D.priv la ln lc ra rn rc).toArray] w (fun e w' => e = .returned (.tuple #[.agg (dirC 0 none 0 0 none 0 0).toArray, .int .i64 50]) ∧ Below w.heap.size w w') := by
 suffices hh : ∀ X : Ending → World → Prop, (∀ W9, Below w.heap.size w W9 → X (.returned (.tuple #[.agg (dirC 0 none 0 0 none 0 0).toArray, .int .i64 50])) W9) → Calls Tryz.prog 20 #[.agg (dirC D.priv la ln lc ra rn rc).toArray] w X from hh _ (fun W9 h => ⟨rfl, h⟩)
 intro X hX0
 have hX := Lib.hid hX0
 clear hX0
 have HT' := Lib.hid HT; have hgs := Lib.hid H.gs; have hqs := Lib.hid H.qs; have hpr := Lib.hid H.pr
 obtain ⟨tb, htb⟩ : ∃ tb, Hid (w.heap.size = tb) := ⟨_, rfl⟩
 have hpv := Lib.hid (r5private_any D.priv)
 have hck := Lib.hid (r35check_any K la ln lc D.ls)
 have hrn : Hid (D.rs.length = rn) := RS.len H.qs
 have rnx : (rn : Int) ≤ 9223372036854775807 := by have := RS.le H.qs; have := RS.max H.qs; omega
 clear HT H
 go_enter Tryz.func20, Tryz.ntmps20
 go_upto_region 1 with fail
 rw [htb.out]
 generalize hW : World.alloc _ _ = W
 have hB : Hid (Blk W tb 34 (dirC D.priv la ln lc ra rn rc)) := by rw [← hW, ← htb.out]; exact (Blk.new w _ (dirC D.priv la ln lc ra rn rc)).alloc _
 have hZ : Hid (Blk W (tb + 1) 34 (dirC 0 none 0 0 none 0 0)) := by
  rw [← hW, ← htb.out]
  have := Blk.new (w.alloc (.cells (dirC D.priv la ln lc ra rn rc).toArray 34)) 34 (dirC 0 none 0 0 none 0 0)
  rwa [World.size_alloc] at this
 have hb : Hid (Below w.heap.size w W) := by rw [← hW]; exact ((Below.refl _ w).alloc (Nat.le_refl _) _).alloc (by simp) _
 clear hW
 have c0 := hB.out.at_ (i := 0) (x := .int .i64 D.priv) rfl
 have c1 := hB.out.at_ (i := 1) (x := .slice la ln lc) rfl
 have c2 := hB.out.at_ (i := 2) (x := .slice ra rn rc) rfl
 go_wp2_with fail
 refine (hpv.out _).mono ?_
 rintro e wx ⟨rfl, hwx⟩
 rw [hwx]
 clear hwx wx
 rw [hk]
 have hbv := hb; have hZv := hZ
 clear hb hZ hB c0 c1 c2
 obtain ⟨WV, hWV⟩ : ∃ V, V = W := ⟨_, rfl⟩
 rw [← hWV] at hbv hZv ⊢
 clear hWV
 obtain ⟨W9, hP⟩ := put_row (ty := 34) hZv.out (x := dirC 0 none 0 0 none 0 0) rfl sizeDr (by intro u hu; simp only [dirC, List.mem_cons, List.not_mem_nil, or_false] at hu; rcases hu with rfl | rfl | rfl <;> rfl)
 have hbk := Lib.hid hP.blk
 have hfin := Lib.hid (hX.out _ (below_grown hbv.out hP.grown hbv.out.size (by have := htb.out; omega)))
 have hP' := Lib.hid hP
 clear hP hX
 have hzi : Hid ((Tryz.prog.info? 34).map (·.size) = some (dirC 0 none 0 0 none 0 0).length) := sizeDr
 clear hZv hbv
 go_wp2_with (first
  | (refine wpList_store_mid (by rfl) 34 (.tmp 2) (.tmp 10) (by rfl) (tb + 1) 0 (dirC 0 none 0 0 none 0 0).toArray (by rfl) (by rfl) hP'.out.there hP'.out.info (by simpa using hP'.out.one) ?_
     generalize hWq : World.setCells _ _ _ _ = Wa
     obtain rfl : W9 = Wa := by rw [← hWq]; exact hP'.out.eq
     clear hWq))
 refine ret_cell_tmp (p := 2) (u := 3) rfl hbk.out Tryz.underlying34 rfl hzi.out rfl rfl rfl ?_
 exact hfin.out

set_option maxRecDepth 20000 in
set_option maxHeartbeats 2000000 in
theorem r35tick_chk (K : Nat → Prop) (D : Dir) (la : Option Addr) (ln lc : Nat) (ra : Option Addr) (rn rc : Nat) (w : World) (HT : Tabs w) (H : DM K w D la ln lc ra rn rc) (hk : keyOk D.priv = true) (hc : Go.Dr.chkL D.ls = false) :
 Calls Tryz.prog 20 #[.agg (dirC D.priv la ln lc ra rn rc).toArray] w (fun e w' => e = .returned (.tuple #[.agg (dirC 0 none 0 0 none 0 0).toArray, .int .i64 350]) ∧ Below w.heap.size w w') := by
 suffices hh : ∀ X : Ending → World → Prop, (∀ W9, Below w.heap.size w W9 → X (.returned (.tuple #[.agg (dirC 0 none 0 0 none 0 0).toArray, .int .i64 350])) W9) → Calls Tryz.prog 20 #[.agg (dirC D.priv la ln lc ra rn rc).toArray] w X from hh _ (fun W9 h => ⟨rfl, h⟩)
 intro X hX0
 have hX := Lib.hid hX0
 clear hX0
 have HT' := Lib.hid HT; have hgs := Lib.hid H.gs; have hqs := Lib.hid H.qs; have hpr := Lib.hid H.pr
 obtain ⟨tb, htb⟩ : ∃ tb, Hid (w.heap.size = tb) := ⟨_, rfl⟩
 have hpv := Lib.hid (r5private_any D.priv)
 have hck := Lib.hid (r35check_any K la ln lc D.ls)
 have hrn : Hid (D.rs.length = rn) := RS.len H.qs
 have rnx : (rn : Int) ≤ 9223372036854775807 := by have := RS.le H.qs; have := RS.max H.qs; omega
 clear HT H
 go_enter Tryz.func20, Tryz.ntmps20
 go_upto_region 1 with fail
 rw [htb.out]
 generalize hW : World.alloc _ _ = W
 have hB : Hid (Blk W tb 34 (dirC D.priv la ln lc ra rn rc)) := by rw [← hW, ← htb.out]; exact (Blk.new w _ (dirC D.priv la ln lc ra rn rc)).alloc _
 have hZ : Hid (Blk W (tb + 1) 34 (dirC 0 none 0 0 none 0 0)) := by
  rw [← hW, ← htb.out]
  have := Blk.new (w.alloc (.cells (dirC D.priv la ln lc ra rn rc).toArray 34)) 34 (dirC 0 none 0 0 none 0 0)
  rwa [World.size_alloc] at this
 have hb : Hid (Below w.heap.size w W) := by rw [← hW]; exact ((Below.refl _ w).alloc (Nat.le_refl _) _).alloc (by simp) _
 clear hW
 have c0 := hB.out.at_ (i := 0) (x := .int .i64 D.priv) rfl
 have c1 := hB.out.at_ (i := 1) (x := .slice la ln lc) rfl
 have c2 := hB.out.at_ (i := 2) (x := .slice ra rn rc) rfl
 go_wp2_with fail
 refine (hpv.out _).mono ?_
 rintro e wx ⟨rfl, hwx⟩
 rw [hwx]
 clear hwx wx
 rw [hk]
 go_wp2_with fail
 refine (hck.out _ (hgs.out.below hb.out)).mono ?_
 rintro e w1 ⟨rfl, hb1⟩
 have hB1 := Lib.hid (hB.out.below hb1 hB.out.lt)
 have hZ1 := Lib.hid (hZ.out.below hb1 hZ.out.lt)
 have hb1' := Lib.hid (hb.out.trans (hb1.mono hb.out.size))
 have d0 := hB1.out.at_ (i := 0) (x := .int .i64 D.priv) rfl
 have d1 := hB1.out.at_ (i := 1) (x := .slice la ln lc) rfl
 have d2 := hB1.out.at_ (i := 2) (x := .slice ra rn rc) rfl
 clear hb1 hB hZ hb c0 c1 c2
 rw [hc]
 have hbv := hb1'; have hZv := hZ1
 clear hb1' hZ1 hB1
 obtain ⟨WV, hWV⟩ : ∃ V, V = w1 := ⟨_, rfl⟩
 rw [← hWV] at hbv hZv d0 d1 d2 ⊢
 clear hWV
 rw [if_neg (by simp)]
 obtain ⟨W9, hP⟩ := put_row (ty := 34) hZv.out (x := dirC 0 none 0 0 none 0 0) rfl sizeDr (by intro u hu; simp only [dirC, List.mem_cons, List.not_mem_nil, or_false] at hu; rcases hu with rfl | rfl | rfl <;> rfl)
 have hbk := Lib.hid hP.blk
 have hfin := Lib.hid (hX.out _ (below_grown hbv.out hP.grown hbv.out.size (by have := htb.out; omega)))
 have hP' := Lib.hid hP
 clear hP hX
 have hzi : Hid ((Tryz.prog.info? 34).map (·.size) = some (dirC 0 none 0 0 none 0 0).length) := sizeDr
 clear hZv hbv
 go_wp2_with (first
  | (refine wpList_store_mid (by rfl) 34 (.tmp 2) (.tmp 16) (by rfl) (tb + 1) 0 (dirC 0 none 0 0 none 0 0).toArray (by rfl) (by rfl) hP'.out.there hP'.out.info (by simpa using hP'.out.one) ?_
     generalize hWq : World.setCells _ _ _ _ = Wa
     obtain rfl : W9 = Wa := by rw [← hWq]; exact hP'.out.eq
     clear hWq))
 refine ret_cell_tmp (p := 2) (u := 3) rfl hbk.out Tryz.underlying34 rfl hzi.out rfl rfl rfl ?_
 exact hfin.out

set_option maxRecDepth 20000 in
set_option maxHeartbeats 2000000 in
theorem r35tick_lim (K : Nat → Prop) (D : Dir) (la : Option Addr) (ln lc : Nat) (ra : Option Addr) (rn rc : Nat) (w : World) (HT : Tabs w) (H : DM K w D la ln lc ra rn rc) (hk : keyOk D.priv = true) (hc : Go.Dr.chkL D.ls = true) (hl : 65536 ≤ D.rs.length) :
 Calls Tryz.prog 20 #[.agg (dirC D.priv la ln lc ra rn rc).toArray] w (fun e w' => e = .returned (.tuple #[.agg (dirC 0 none 0 0 none 0 0).toArray, .int .i64 2]) ∧ Below w.heap.size w w') := by
 suffices hh : ∀ X : Ending → World → Prop, (∀ W9, Below w.heap.size w W9 → X (.returned (.tuple #[.agg (dirC 0 none 0 0 none 0 0).toArray, .int .i64 2])) W9) → Calls Tryz.prog 20 #[.agg (dirC D.priv la ln lc ra rn rc).toArray] w X from hh _ (fun W9 h => ⟨rfl, h⟩)
 intro X hX0
 have hX := Lib.hid hX0
 clear hX0
 have HT' := Lib.hid HT; have hgs := Lib.hid H.gs; have hqs := Lib.hid H.qs; have hpr := Lib.hid H.pr
 obtain ⟨tb, htb⟩ : ∃ tb, Hid (w.heap.size = tb) := ⟨_, rfl⟩
 have hpv := Lib.hid (r5private_any D.priv)
 have hck := Lib.hid (r35check_any K la ln lc D.ls)
 have hrn : Hid (D.rs.length = rn) := RS.len H.qs
 have rnx : (rn : Int) ≤ 9223372036854775807 := by have := RS.le H.qs; have := RS.max H.qs; omega
 clear HT H
 go_enter Tryz.func20, Tryz.ntmps20
 go_upto_region 1 with fail
 rw [htb.out]
 generalize hW : World.alloc _ _ = W
 have hB : Hid (Blk W tb 34 (dirC D.priv la ln lc ra rn rc)) := by rw [← hW, ← htb.out]; exact (Blk.new w _ (dirC D.priv la ln lc ra rn rc)).alloc _
 have hZ : Hid (Blk W (tb + 1) 34 (dirC 0 none 0 0 none 0 0)) := by
  rw [← hW, ← htb.out]
  have := Blk.new (w.alloc (.cells (dirC D.priv la ln lc ra rn rc).toArray 34)) 34 (dirC 0 none 0 0 none 0 0)
  rwa [World.size_alloc] at this
 have hb : Hid (Below w.heap.size w W) := by rw [← hW]; exact ((Below.refl _ w).alloc (Nat.le_refl _) _).alloc (by simp) _
 clear hW
 have c0 := hB.out.at_ (i := 0) (x := .int .i64 D.priv) rfl
 have c1 := hB.out.at_ (i := 1) (x := .slice la ln lc) rfl
 have c2 := hB.out.at_ (i := 2) (x := .slice ra rn rc) rfl
 go_wp2_with fail
 refine (hpv.out _).mono ?_
 rintro e wx ⟨rfl, hwx⟩
 rw [hwx]
 clear hwx wx
 rw [hk]
 go_wp2_with fail
 refine (hck.out _ (hgs.out.below hb.out)).mono ?_
 rintro e w1 ⟨rfl, hb1⟩
 have hB1 := Lib.hid (hB.out.below hb1 hB.out.lt)
 have hZ1 := Lib.hid (hZ.out.below hb1 hZ.out.lt)
 have hb1' := Lib.hid (hb.out.trans (hb1.mono hb.out.size))
 have d0 := hB1.out.at_ (i := 0) (x := .int .i64 D.priv) rfl
 have d1 := hB1.out.at_ (i := 1) (x := .slice la ln lc) rfl
 have d2 := hB1.out.at_ (i := 2) (x := .slice ra rn rc) rfl
 clear hb1 hB hZ hb c0 c1 c2
 rw [hc]
 have hbv := hb1'; have hZv := hZ1
 clear hb1' hZ1 hB1
 obtain ⟨WV, hWV⟩ : ∃ V, V = w1 := ⟨_, rfl⟩
 rw [← hWV] at hbv hZv d0 d1 d2 ⊢
 clear hWV
 rw [if_pos rfl]
 have hge : decide ((65536 : Int) ≤ (rn : Int)) = true := by have := hrn.out; simp; omega
 obtain ⟨W9, hP⟩ := put_row (ty := 34) hZv.out (x := dirC 0 none 0 0 none 0 0) rfl sizeDr (by intro u hu; simp only [dirC, List.mem_cons, List.not_mem_nil, or_false] at hu; rcases hu with rfl | rfl | rfl <;> rfl)
 have hbk := Lib.hid hP.blk
 have hfin := Lib.hid (hX.out _ (below_grown hbv.out hP.grown hbv.out.size (by have := htb.out; omega)))
 have hP' := Lib.hid hP
 clear hP hX
 have hzi : Hid ((Tryz.prog.info? 34).map (·.size) = some (dirC 0 none 0 0 none 0 0).length) := sizeDr
 clear hZv hbv
 go_wp2_with (first
  | (refine wpList_store_mid (by rfl) 34 (.tmp 2) (.tmp 22) (by rfl) (tb + 1) 0 (dirC 0 none 0 0 none 0 0).toArray (by rfl) (by rfl) hP'.out.there hP'.out.info (by simpa using hP'.out.one) ?_
     generalize hWq : World.setCells _ _ _ _ = Wa
     obtain rfl : W9 = Wa := by rw [← hWq]; exact hP'.out.eq
     clear hWq))
 refine ret_cell_tmp (p := 2) (u := 3) rfl hbk.out Tryz.underlying34 rfl hzi.out rfl rfl rfl ?_
 exact hfin.out

theorem sizeSg3 : (Tryz.prog.info? 25).map (·.size) = some (#[.int .i64 0, .int .i64 0] : Array Value).size := by kernel_rfl
set_option maxRecDepth 20000 in
set_option maxHeartbeats 8000000 in
theorem r35tick_ok (K : Nat → Prop) (D : Dir) (la : Option Addr) (ln lc : Nat) (ra : Option Addr) (rn rc : Nat) (w : World) (HT : Tabs w) (H : DM K w D la ln lc ra rn rc) (hk : keyOk D.priv = true) (hc : Go.Dr.chkL D.ls = true) (hl : D.rs.length < 65536) :
 Calls Tryz.prog 20 #[.agg (dirC D.priv la ln lc ra rn rc).toArray] w (fun e w' => ∃ a n c, e = .returned (.tuple #[.agg (dirC D.priv la ln lc a n c).toArray, .int .i64 0]) ∧ QS (fun b => w.heap.size ≤ b) w' a n c (D.rs ++ [Go.Dr.nextR 4 D]) ∧ Below w.heap.size w w') := by
 suffices hh : ∀ X : Ending → World → Prop, (∀ a n c W9, QS (fun b => w.heap.size ≤ b) W9 a n c (D.rs ++ [Go.Dr.nextR 4 D]) → Below w.heap.size w W9 → X (.returned (.tuple #[.agg (dirC D.priv la ln lc a n c).toArray, .int .i64 0])) W9) → Calls Tryz.prog 20 #[.agg (dirC D.priv la ln lc ra rn rc).toArray] w X from hh _ (fun a n c W9 h1 h2 => ⟨a, n, c, rfl, h1, h2⟩)
 intro X hX00
 have hX0 := Lib.hid hX00
 clear hX00
 have hle : Hid (rn ≤ rc) := RS.le H.qs
 have hmx : Hid (rc ≤ 9223372036854775807) := RS.max H.qs
 have hnil : Hid (ra = none → rn = 0 ∧ rc = 0) := RS.nil' H.qs
 obtain ⟨rows, hRd0, hRo0⟩ := H.qs.rows
 have hRd := Lib.hid hRd0; have hRo := Lib.hid hRo0
 clear hRd0 hRo0
 have hrone : Hid (∀ u ∈ rows.flatten, u.oneCell' = true) := rows_oneR hRo.out
 have HT' := Lib.hid HT; have hgs := Lib.hid H.gs; have hqs := Lib.hid H.qs; have hpr := Lib.hid H.pr
 obtain ⟨tb, htb⟩ : ∃ tb, Hid (w.heap.size = tb) := ⟨_, rfl⟩
 have hpv := Lib.hid (r5private_any D.priv)
 have hck := Lib.hid (r35check_any K la ln lc D.ls)
 have hrn : Hid (D.rs.length = rn) := RS.len H.qs
 have rnx : (rn : Int) ≤ 9223372036854775807 := by have := RS.le H.qs; have := RS.max H.qs; omega
 clear HT H
 go_enter Tryz.func20, Tryz.ntmps20
 go_upto_region 1 with fail
 rw [htb.out]
 generalize hW : World.alloc _ _ = W
 have hB : Hid (Blk W tb 34 (dirC D.priv la ln lc ra rn rc)) := by rw [← hW, ← htb.out]; exact (Blk.new w _ (dirC D.priv la ln lc ra rn rc)).alloc _
 have hZ : Hid (Blk W (tb + 1) 34 (dirC 0 none 0 0 none 0 0)) := by
  rw [← hW, ← htb.out]
  have := Blk.new (w.alloc (.cells (dirC D.priv la ln lc ra rn rc).toArray 34)) 34 (dirC 0 none 0 0 none 0 0)
  rwa [World.size_alloc] at this
 have hb : Hid (Below w.heap.size w W) := by rw [← hW]; exact ((Below.refl _ w).alloc (Nat.le_refl _) _).alloc (by simp) _
 clear hW
 have c0 := hB.out.at_ (i := 0) (x := .int .i64 D.priv) rfl
 have c1 := hB.out.at_ (i := 1) (x := .slice la ln lc) rfl
 have c2 := hB.out.at_ (i := 2) (x := .slice ra rn rc) rfl
 go_wp2_with fail
 refine (hpv.out _).mono ?_
 rintro e wx ⟨rfl, hwx⟩
 rw [hwx]
 clear hwx wx
 rw [hk]
 go_wp2_with fail
 refine (hck.out _ (hgs.out.below hb.out)).mono ?_
 rintro e w1 ⟨rfl, hb1⟩
 have hB1 := Lib.hid (hB.out.below hb1 hB.out.lt)
 have hZ1 := Lib.hid (hZ.out.below hb1 hZ.out.lt)
 have hb1' := Lib.hid (hb.out.trans (hb1.mono hb.out.size))
 have d0 := hB1.out.at_ (i := 0) (x := .int .i64 D.priv) rfl
 have d1 := hB1.out.at_ (i := 1) (x := .slice la ln lc) rfl
 have d2 := hB1.out.at_ (i := 2) (x := .slice ra rn rc) rfl
 clear hb1 hB hZ hb c0 c1 c2
 rw [hc, if_pos rfl]
 have hlt := hrn.out
 have hge : decide ((65536 : Int) ≤ (rn : Int)) = false := by simp; omega
 have rn16 : (rn : Int) ≤ 65535 := by omega
 have rn0 : (0 : Int) ≤ (rn : Int) := by omega
 clear hlt
 obtain ⟨D0, hD0⟩ : ∃ D0, Hid (Go.Dr.rootD D.ls = D0) := ⟨_, rfl⟩
 have hDl : Hid (D0.length = 32) := by rw [← hD0.out]; exact Go.Dr.nodeD_length D.ls 9 1
 have hDu : Hid (∀ u ∈ D0, u < 256) := by rw [← hD0.out]; exact Go.Dr.nodeD_lt D.ls 9 1
 have hbl := Lib.hid (root_build hDl.out ((rn : Int) + 1))
 have hR0 : Hid (OkQ ⟨(rn : Int) + 1, D0, Go.Dr.zd, 0, 0⟩) := ⟨⟨by show _ ≤ (rn : Int) + 1; omega, by show (rn : Int) + 1 ≤ _; omega⟩, hDl.out, hDu.out, by simp [Go.Dr.zd], by simp [Go.Dr.zd], i64_0, i64_0⟩
 obtain ⟨R0, hR0e⟩ : ∃ R0, Hid ((⟨(rn : Int) + 1, D0, Go.Dr.zd, 0, 0⟩ : Rt) = R0) := ⟨_, rfl⟩
 rw [hR0e.out] at hbl hR0
 have hdig : Hid (∀ W, Below w1.heap.size w1 W → Calls Tryz.prog 25 #[.slice la ln lc] W (DigPost D0 W)) := fun W hb => by
  have hb2 := hb1'.out.trans (hb.mono hb1'.out.size)
  have := r35digest_any K la ln lc D.ls W (hgs.out.below hb2)
  rw [hD0.out] at this
  exact this
 have htl : Hid (tb < w1.heap.size) := hB1.out.lt
 have hwr1 : IntKind.i64.wrap ((rn : Int) + 1) = (rn : Int) + 1 := IntWalk.i64_in _ (by omega)
 go_wp2_with fail
 have d0' := Lib.hid d0
 clear d0
 refine share (G := ∀ (q8 : Nat) (WZ : World), (Below w1.heap.size w1 WZ) → (Blk WZ q8 27 (rC R0)) → (w1.heap.size ≤ q8) → (?GfinR8 : Nat → World → Prop) q8 WZ) ?hfinR8 ?kfinR8
 case' hfinR8 =>
  intro KfinR8
 case' hfinR8 =>
  refine share (G := ∀ (q8 : Nat) (WZ : World), (Below w1.heap.size w1 WZ) → (Blk WZ q8 27 (rC Go.Dr.zeroR)) → (w1.heap.size ≤ q8) → (?Gs1_8_R8 : Nat → World → Prop) q8 WZ) ?hs1_8_R8 ?ks1_8_R8
 case' hs1_8_R8 => intro Ks1_8_R8
 case' hs1_8_R8 =>
  refine share (G := ∀ (WZ : World), (Below w1.heap.size w1 WZ) → (?Gs1_R8 : World → Prop) WZ) ?hs1_R8 ?ks1_R8
 case' hs1_R8 => intro Ks1_R8
 case' hs1_R8 =>
  refine share (G := ∀ (q8 : Nat) (WZ : World), (Below w1.heap.size w1 WZ) → (Blk WZ q8 27 (rC Go.Dr.zeroR)) → (w1.heap.size ≤ q8) → (?Gs0_8_R8 : Nat → World → Prop) q8 WZ) ?hs0_8_R8 ?ks0_8_R8
 case' hs0_8_R8 => intro Ks0_8_R8
 case hs0_8_R8 =>
  refine wp_region_held_drew (S := fun wz => Below w1.heap.size w1 wz) (by kernel_rfl) ((Below.refl _ w1).drew) (fun hHeld => ?_)
  generalize w1.drew = WZ at *
  refine wpAnyH_take (i := 0) (oi := ⟨some 23, .fieldAddr 34 (.tmp 1) 2, 0, "ref.go:140", #[], none⟩) (v := ?_) rfl (by kernel_rfl) (by kernel_rfl) (by kernel_rfl) (fun _ _ _ h => h) (Or.inl ⟨by rfl, ?_⟩) hHeld ?_
  rotate_left
  · intro wz hSw
    go_simp
    all_goals (with_reducible rfl)
  try simp only [Act.put, List.setIfInBounds_toArray, List.set_cons_zero, List.set_cons_succ]
  refine wpAnyH_take (i := 1) (oi := ⟨some 24, .load 32 (.tmp 23), 32, "ref.go:140", #[⟨0, .data⟩], none⟩) (v := ?_) rfl (by kernel_rfl) (by kernel_rfl) (by kernel_rfl) (fun _ _ _ h => h) (Or.inl ⟨by rfl, ?_⟩) hHeld ?_
  rotate_left
  · intro wz hSw
    have q2 := (hSw.cell (p := ⟨tb, 2, none⟩) htl.out).trans d2
    go_simp
    all_goals (with_reducible rfl)
  try simp only [Act.put, List.setIfInBounds_toArray, List.set_cons_zero, List.set_cons_succ]
  refine wpAnyH_take (i := 2) (oi := ⟨some 25, .call { callee := .builtin .len, args := #[.tmp 24], argTypes := #[32] }, 3, "ref.go:140", #[⟨1, .data⟩], none⟩) (v := ?_) rfl (by kernel_rfl) (by kernel_rfl) (by kernel_rfl) (fun _ _ _ h => h) (Or.inl ⟨by rfl, ?_⟩) hHeld ?_
  rotate_left
  · intro wz hSw
    go_simp
    all_goals (with_reducible rfl)
  try simp only [Act.put, List.setIfInBounds_toArray, List.set_cons_zero, List.set_cons_succ]
  refine wpAnyH_take (i := 3) (oi := ⟨some 26, .binOp .add 3 (.tmp 25) (.const (.int .i64 1)) 3, 3, "ref.go:140", #[⟨2, .data⟩], none⟩) (v := ?_) rfl (by kernel_rfl) (by kernel_rfl) (by kernel_rfl) (fun _ _ _ h => h) (Or.inl ⟨by rfl, ?_⟩) hHeld ?_
  rotate_left
  · intro wz hSw
    go_simp
    all_goals (with_reducible rfl)
  try simp only [Act.put, List.setIfInBounds_toArray, List.set_cons_zero, List.set_cons_succ]
  refine wpAnyH_take (i := 4) (oi := ⟨some 27, .fieldAddr 34 (.tmp 1) 1, 0, "ref.go:140", #[], none⟩) (v := ?_) rfl (by kernel_rfl) (by kernel_rfl) (by kernel_rfl) (fun _ _ _ h => h) (Or.inl ⟨by rfl, ?_⟩) hHeld ?_
  rotate_left
  · intro wz hSw
    go_simp
    all_goals (with_reducible rfl)
  try simp only [Act.put, List.setIfInBounds_toArray, List.set_cons_zero, List.set_cons_succ]
  refine wpAnyH_take (i := 5) (oi := ⟨some 28, .load 31 (.tmp 27), 31, "ref.go:140", #[⟨4, .data⟩], none⟩) (v := ?_) rfl (by kernel_rfl) (by kernel_rfl) (by kernel_rfl) (fun _ _ _ h => h) (Or.inl ⟨by rfl, ?_⟩) hHeld ?_
  rotate_left
  · intro wz hSw
    have q1 := (hSw.cell (p := ⟨tb, 1, none⟩) htl.out).trans d1
    go_simp
    all_goals (with_reducible rfl)
  try simp only [Act.put, List.setIfInBounds_toArray, List.set_cons_zero, List.set_cons_succ]
  refine wpAnyH_ready (rs := [6, 8]) (by kernel_rfl) (by simp) ?_
  refine AllReadyH.cons (o := ⟨some 29, .call { callee := .value (.func 25), args := #[.tmp 28], argTypes := #[31] }, 23, "ref.go:140", #[⟨5, .data⟩], none⟩) rfl (fun K hK => ?_) (AllReadyH.cons (o := ⟨some 5, .alloc 27, 0, "ref.go:140", #[], none⟩) rfl (fun K hK => ?_) AllReadyH.nil)
  case refine_1 =>
   rw [if_pos (by rfl)]
   show Oper.wp _ _ _ _ K _
   go_simp
   go_at_call 25
   refine (hdig.out WZ hHeld).mono ?_
   rintro e wq ⟨rfl, hst⟩


   refine hK.out _ _ (hHeld.trans (hst.mono hHeld.size)) (fun hHeld2 => ?_)
   clear hK K
   try simp only [Act.put, List.setIfInBounds_toArray, List.set_cons_zero, List.set_cons_succ]
   refine wpAnyH_take (i := 7) (oi := ⟨some 30, .build 27 #[(0, .tmp 26), (1, .tmp 29)], 27, "ref.go:140", #[⟨3, .data⟩, ⟨6, .data⟩], none⟩) rfl (by kernel_rfl) (by kernel_rfl) (by kernel_rfl) (fun _ _ _ h => h) (hold_build (by rfl) _ _ rfl #[(0, .int .i64 ((rn : Int) + 1)), (1, .agg (bv D0).toArray)] (by simp only [List.map_toArray, List.map_cons, List.map_nil]; rfl) hbl.out) hHeld2 ?_
   try simp only [Act.put, List.setIfInBounds_toArray, List.set_cons_zero, List.set_cons_succ]
   exact Ks1_R8  wq (hHeld2)
  case refine_2 =>
   rw [if_pos (by rfl)]
   show Oper.wp _ _ _ _ K _
   go_simp
   refine hK.out _ _ (hHeld.alloc hHeld.size _) (fun hHeld2 => ?_)
   clear hK K
   try simp only [Act.put, List.setIfInBounds_toArray, List.set_cons_zero, List.set_cons_succ]
   generalize hW2 : World.alloc WZ _ = W2
   rw [hW2] at hHeld2
   generalize hq : WZ.heap.size = q8
   have hBn : Blk W2 q8 27 (rC Go.Dr.zeroR) := by rw [← hW2, ← hq]; exact Blk.new _ _ _
   have hLn := hHeld.size
   rw [hq] at hLn
   clear hW2 hq
   exact Ks0_8_R8 q8 W2 (hHeld2) (hBn) (hLn)
 case ks0_8_R8 =>
  intro q8 WZ hHeld hB8 hL8
  refine wpAnyH_ready (rs := [6]) (by kernel_rfl) (by simp) ?_
  refine AllReadyH.cons (o := ⟨some 29, .call { callee := .value (.func 25), args := #[.tmp 28], argTypes := #[31] }, 23, "ref.go:140", #[⟨5, .data⟩], none⟩) rfl (fun K hK => ?_) AllReadyH.nil
  rw [if_pos (by rfl)]
  show Oper.wp _ _ _ _ K _
  go_simp
  go_at_call 25
  refine (hdig.out WZ hHeld).mono ?_
  rintro e wq ⟨rfl, hst⟩


  refine hK.out _ _ (hHeld.trans (hst.mono hHeld.size)) (fun hHeld2 => ?_)
  clear hK K
  try simp only [Act.put, List.setIfInBounds_toArray, List.set_cons_zero, List.set_cons_succ]
  refine wpAnyH_take (i := 7) (oi := ⟨some 30, .build 27 #[(0, .tmp 26), (1, .tmp 29)], 27, "ref.go:140", #[⟨3, .data⟩, ⟨6, .data⟩], none⟩) rfl (by kernel_rfl) (by kernel_rfl) (by kernel_rfl) (fun _ _ _ h => h) (hold_build (by rfl) _ _ rfl #[(0, .int .i64 ((rn : Int) + 1)), (1, .agg (bv D0).toArray)] (by simp only [List.map_toArray, List.map_cons, List.map_nil]; rfl) hbl.out) hHeld2 ?_
  try simp only [Act.put, List.setIfInBounds_toArray, List.set_cons_zero, List.set_cons_succ]
  exact Ks1_8_R8 q8 wq (hHeld2) (hB8.below hst hB8.lt) (hL8)
 case ks1_R8 =>
  intro  WZ hHeld
  refine wpAnyH_ready (rs := [8]) (by kernel_rfl) (by simp) ?_
  refine AllReadyH.cons (o := ⟨some 5, .alloc 27, 0, "ref.go:140", #[], none⟩) rfl (fun K hK => ?_) AllReadyH.nil
  rw [if_pos (by rfl)]
  show Oper.wp _ _ _ _ K _
  go_simp
  refine hK.out _ _ (hHeld.alloc hHeld.size _) (fun hHeld2 => ?_)
  clear hK K
  try simp only [Act.put, List.setIfInBounds_toArray, List.set_cons_zero, List.set_cons_succ]
  generalize hW2 : World.alloc WZ _ = W2
  rw [hW2] at hHeld2
  generalize hq : WZ.heap.size = q8
  have hBn : Blk W2 q8 27 (rC Go.Dr.zeroR) := by rw [← hW2, ← hq]; exact Blk.new _ _ _
  have hLn := hHeld.size
  rw [hq] at hLn
  clear hW2 hq
  exact Ks1_8_R8 q8 W2 (hHeld2) (hBn) (hLn)
 case ks1_8_R8 =>
  intro q8 WZ hHeld hB8 hL8
  refine wpAnyH_ready (rs := [9]) (by kernel_rfl) (by simp) ?_
  refine AllReadyH.cons (o := ⟨none, .store 27 (.tmp 5) (.tmp 30), 0, "ref.go:140", #[⟨8, .data⟩, ⟨7, .data⟩, ⟨6, .chain⟩, ⟨0, .phase⟩, ⟨1, .phase⟩, ⟨2, .phase⟩, ⟨3, .phase⟩, ⟨4, .phase⟩, ⟨5, .phase⟩, ⟨6, .phase⟩, ⟨7, .phase⟩, ⟨8, .phase⟩], none⟩) rfl (fun K hK => ?_) AllReadyH.nil
  obtain ⟨W3, hQ⟩ := put_row (ty := 27) hB8 (x := rC R0) (by rw [rC_length hR0.out, rC_length okZ]) (by rw [rC_length hR0.out]; exact sizeR) (rC_one R0)
  have hHeld2 := below_grown hHeld hQ.grown hHeld.size hL8
  rw [if_pos (by rfl)]
  refine wp_store_mid 27 _ _ rfl q8 0 (rC R0 : List Value).toArray (by rfl) (by rfl) hQ.there hQ.info (by simpa using hQ.one) ?_
  generalize hWq : World.setCells _ _ _ _ = Wa
  obtain rfl : W3 = Wa := by rw [← hWq]; exact hQ.eq
  clear hWq
  refine hK.out _ _ hHeld2 (fun _ => ?_)
  clear hK K
  try simp only [Act.put]
  refine wpAnyH_done (by kernel_rfl) ?_ _
  exact KfinR8 q8 W3 (hHeld2) (hQ.blk) (hL8)
 case kfinR8 =>
  intro g w2 hbz hB8 hL8
  have hB2 := Lib.hid (hB1.out.below hbz hB1.out.lt)
  have hZ2 := Lib.hid (hZ1.out.below hbz hZ1.out.lt)
  have hb2 := Lib.hid (hb1'.out.trans (hbz.mono hb1'.out.size))
  have hgt : tb + 1 < g := by have := hZ1.out.lt; omega
  have htbw := htb.out
  clear hB1 hZ1 hb1' hbz hL8 hdig d1 d2 htl hbl hwr1
  have e2 := hB2.out.at_ (i := 2) (x := .slice ra rn rc) rfl
  obtain ⟨zz, hzz⟩ : ∃ zz, Hid (dirC 0 none 0 0 none 0 0 = zz) := ⟨_, rfl⟩
  have hr0' : Hid ((dirC D.priv la ln lc ra rn rc)[0]? = some (.int .i64 D.priv)) := rfl
  have hr1' : Hid ((dirC D.priv la ln lc ra rn rc)[1]? = some (.slice la ln lc)) := rfl
  have hr2' : Hid ((dirC D.priv la ln lc ra rn rc)[2]? = some (.slice ra rn rc)) := rfl
  have hrs' : Hid (∀ a n c, (dirC D.priv la ln lc ra rn rc).set 2 (.slice a n c) = dirC D.priv la ln lc a n c) := fun a n c => rfl
  obtain ⟨rr, hrr⟩ : ∃ rr, Hid (dirC D.priv la ln lc ra rn rc = rr) := ⟨_, rfl⟩
  have hBt := hB2.out
  have hBz := hZ2.out
  rw [hrr.out] at hBt hr0' hr1' hr2' hrs'
  rw [hzz.out] at hBz
  have hr0 := hr0'; have hr1 := hr1'; have hr2 := hr2'; have hrs := hrs'
  clear hr0' hr1' hr2' hrs'
  by_cases hne : D.rs.length = 0
  · have hrs0 : D.rs = [] := List.eq_nil_of_length_eq_zero hne
    have hg1 : ¬ 0 < rn := by have := hrn.out; omega
    have hg0 : decide (0 < rn) = false := decide_eq_false hg1
    have hpv2 : Hid (Go.Dr.prevOf D.rs = Go.Dr.zd) := by show _ = _; rw [hrs0]; rfl
    have hBg := hB8
    have hok1 := Lib.hid (hR0.out)
    obtain ⟨R1, hR1⟩ : ∃ R1, Hid (R0 = R1) := ⟨_, rfl⟩
    have hbase : Hid (Go.Dr.baseR D = R1) := by
     show _ = _
     rw [← hR1.out, ← hR0e.out]
     unfold Go.Dr.baseR
     rw [hD0.out, hpv2.out, hrn.out]
    rw [hR1.out] at hok1 hBg
    have zR1 : Hid ((Tryz.prog.info? 27).map (·.size) = some (rC R1).length) := by show _ = _; rw [rC_length hok1.out]; exact sizeR
    obtain ⟨sr, ss, hsg, hsr, hss⟩ := signK_at hk (Go.Dr.msgR R1)
    have hml : Hid ((Go.Dr.msgR R1).length = 72) := by show _ = _; unfold Go.Dr.msgR Go.Dr.num8; simp [hok1.out.dig, hok1.out.prev, Sha.be_length]
    have hok2 : Hid (OkQ { R1 with r := sr, s := ss }) := ⟨hok1.out.no, hok1.out.dig, hok1.out.digl, hok1.out.prev, hok1.out.prevl, hsr, hss⟩
    have hsn : Hid (∀ (a2 : Option Addr) (c2 : Nat) (W : World), BS W a2 72 c2 (Go.Dr.msgR R1) → Calls Tryz.prog 64 #[.int .i64 D.priv, .slice a2 72 c2] W (fun e w' => e = .returned (.tuple #[.agg #[.int .i64 sr, .int .i64 ss], .int .i64 0]) ∧ Below W.heap.size W w')) := fun a2 c2 W hS => by
     have := r5sign_any D.priv a2 72 c2 (Go.Dr.msgR R1) W (bw_of hS) (by omega)
     rw [hsg] at this
     exact this
    obtain ⟨R2, hR2⟩ : ∃ R2 : Rt, Hid ({ R1 with r := sr, s := ss } = R2) := ⟨_, rfl⟩
    have hok3 := hok2
    rw [hR2.out] at hok3
    have zR2 : Hid ((Tryz.prog.info? 27).map (·.size) = some (rC R2).length) := by show _ = _; rw [rC_length hok3.out]; exact sizeR
    have hnx : Hid (Go.Dr.nextR 4 D = R2) := by
     show _ = _
     unfold Go.Dr.nextR
     rw [hbase.out, hsg, ← hR2.out]
    have hX : Hid (∀ a n c W9, QS (fun b => w.heap.size ≤ b) W9 a n c (D.rs ++ [R2]) → Below w.heap.size w W9 → X (.returned (.tuple #[.agg (dirC D.priv la ln lc a n c).toArray, .int .i64 0])) W9) := fun a n c W9 h1 h2 => hX0.out a n c W9 (by rw [hnx.out]; exact h1) h2
    clear hX0 hsg hsr hss

    go_wp2_with fail
    have hM : TgW w tb rr zz g w2 := ⟨hBt, hBz, ⟨R1, hok1.out, hBg⟩, hb2.out⟩
    clear hBt hBz hB2 hZ2 hB8 e2 hne hg0 hg1 hrs0
    refine wp_region_held_drew (S := fun wz => TgW w tb rr zz g wz) (by kernel_rfl) (hM.drew) (fun hHeld => ?_)
    have hBd : Blk w2.drew g 27 (rC R1) := hBg
    clear hBg
    generalize w2.drew = V0 at *
    refine wpAnyH_take (i := 0) (oi := ⟨some 46, .fieldAddr 34 (.tmp 1) 0, 0, "ref.go:144", #[], none⟩) (v := ?_) rfl (by kernel_rfl) (by kernel_rfl) (by kernel_rfl) (fun _ _ _ h => h) (Or.inl ⟨by rfl, ?_⟩) hHeld ?_
    rotate_left
    · intro wz hSw
      go_simp
      all_goals (with_reducible rfl)
    try simp only [Act.put, List.setIfInBounds_toArray, List.set_cons_zero, List.set_cons_succ]
    refine wpAnyH_take (i := 1) (oi := ⟨some 47, .load 3 (.tmp 46), 3, "ref.go:144", #[⟨0, .data⟩], none⟩) (v := ?_) rfl (by kernel_rfl) (by kernel_rfl) (by kernel_rfl) (fun _ _ _ h => h) (Or.inl ⟨by rfl, ?_⟩) hHeld ?_
    rotate_left
    · intro wz hSw
      have q0 := hSw.1.at_ hr0.out
      go_simp
      all_goals (with_reducible rfl)
    try simp only [Act.put, List.setIfInBounds_toArray, List.set_cons_zero, List.set_cons_succ]
    refine wpAnyH_ready (rs := [2]) (by kernel_rfl) (by simp) ?_
    refine AllReadyH.cons (o := ⟨some 48, .load 27 (.tmp 5), 27, "ref.go:144", #[], none⟩) rfl (fun K hK => ?_) AllReadyH.nil
    rw [if_pos (by rfl)]
    refine wp_load_mid 27 _ (by rfl) g 0 (by rfl) (rC R1) _ hBd.range Tryz.underlying27 rfl zR1.out ?_
    refine hK.out _ _ hHeld (fun _ => ?_)
    clear hK K
    try simp only [Act.put, List.setIfInBounds_toArray, List.set_cons_zero, List.set_cons_succ]
    refine wpAnyH_ready (rs := [3]) (by kernel_rfl) (by simp) ?_
    refine AllReadyH.cons (o := ⟨some 49, .call { callee := .value (.func 45), args := #[.tmp 48], argTypes := #[27] }, 74, "ref.go:144", #[⟨2, .data⟩], none⟩) rfl (fun K hK => ?_) AllReadyH.nil
    rw [if_pos (by rfl)]
    show Oper.wp _ _ _ _ K _
    go_simp
    go_at_call 45
    refine (r35msg_any R1 hok1.out V0).mono ?_
    rintro e V1 ⟨v1, rfl, ho1, hst⟩
    have hBg1 := hBd.below hst hBd.lt
    obtain ⟨a2, c2, rfl, hS3'⟩ := BS.own ho1.1 ho1.2
    have hS3 := Lib.hid hS3'
    refine hK.out _ _ (hHeld.next hst) (fun hHeld2 => ?_)
    clear hHeld hst hBd ho1 hS3'
    have hHeld := hHeld2
    clear hHeld2
    rw [hml.out] at hS3 ⊢
    clear hK K
    try simp only [Act.put, List.setIfInBounds_toArray, List.set_cons_zero, List.set_cons_succ]
    refine wpAnyH_ready (rs := [4]) (by kernel_rfl) (by simp) ?_
    refine AllReadyH.cons (o := ⟨some 50, .call { callee := .value (.func 64), args := #[.tmp 47, .tmp 49], argTypes := #[3, 74] }, 96, "ref.go:144", #[⟨1, .data⟩, ⟨3, .data⟩, ⟨3, .chain⟩], none⟩) rfl (fun K hK => ?_) AllReadyH.nil
    rw [if_pos (by rfl)]
    show Oper.wp _ _ _ _ K _
    go_simp
    go_at_call 64
    refine (hsn.out a2 c2 V1 hS3.out).mono ?_
    rintro e V4 ⟨rfl, hst2⟩
    have hBg4 := hBg1.below hst2 hBg1.lt
    refine hK.out _ _ (hHeld.next hst2) (fun hHeld2 => ?_)
    clear hHeld hst2 hBg1 hS3
    have hHeld := hHeld2
    clear hHeld2
    clear hK K
    try simp only [Act.put, List.setIfInBounds_toArray, List.set_cons_zero, List.set_cons_succ]
    refine wpAnyH_take (i := 5) (oi := ⟨some 45, .move (.tmp 50), 96, "ref.go:144", #[⟨4, .data⟩], none⟩) (v := ?_) rfl (by kernel_rfl) (by kernel_rfl) (by kernel_rfl) (fun _ _ _ h => h) (Or.inl ⟨by rfl, ?_⟩) hHeld ?_
    rotate_left
    · intro wz hSw
      go_simp
      all_goals (with_reducible rfl)
    try simp only [Act.put, List.setIfInBounds_toArray, List.set_cons_zero, List.set_cons_succ]
    refine wpAnyH_take (i := 6) (oi := ⟨some 51, .extract (.tmp 45) 0, 25, "ref.go:144", #[⟨5, .data⟩], none⟩) (v := ?_) rfl (by kernel_rfl) (by kernel_rfl) (by kernel_rfl) (fun _ _ _ h => h) (Or.inl ⟨by rfl, ?_⟩) hHeld ?_
    rotate_left
    · intro wz hSw
      go_simp
      all_goals (with_reducible rfl)
    try simp only [Act.put, List.setIfInBounds_toArray, List.set_cons_zero, List.set_cons_succ]
    refine wpAnyH_take (i := 7) (oi := ⟨some 52, .extract (.tmp 45) 1, 38, "ref.go:144", #[⟨5, .data⟩, ⟨9, .gcOnly .lateStores⟩], none⟩) (v := ?_) rfl (by kernel_rfl) (by kernel_rfl) (by kernel_rfl) (fun _ _ _ h => h) (Or.inl ⟨by rfl, ?_⟩) hHeld ?_
    rotate_left
    · intro wz hSw
      go_simp
      all_goals (with_reducible rfl)
    try simp only [Act.put, List.setIfInBounds_toArray, List.set_cons_zero, List.set_cons_succ]
    refine wpAnyH_take (i := 8) (oi := ⟨some 53, .fieldAddr 27 (.tmp 5) 3, 0, "ref.go:144", #[⟨0, .phase⟩, ⟨1, .phase⟩, ⟨2, .phase⟩, ⟨3, .phase⟩, ⟨4, .phase⟩, ⟨5, .phase⟩, ⟨6, .phase⟩, ⟨7, .textOnly .lateStores⟩], none⟩) (v := ?_) rfl (by kernel_rfl) (by kernel_rfl) (by kernel_rfl) (fun _ _ _ h => h) (Or.inl ⟨by rfl, ?_⟩) hHeld ?_
    rotate_left
    · intro wz hSw
      go_simp
      all_goals (with_reducible rfl)
    try simp only [Act.put, List.setIfInBounds_toArray, List.set_cons_zero, List.set_cons_succ]
    obtain ⟨V9, hP⟩ := put_sig hok1.out hBg4 sr ss
    have hNew : TgW w tb rr zz g V9 := ⟨hHeld.1.grown hP.grown (by intro e; injection e; omega), hHeld.2.1.grown hP.grown (by intro e; injection e; omega), ⟨_, hok2.out, hP.blk⟩, hHeld.2.2.2.grown hP.grown hHeld.2.2.2.size (fun k e => by cases e; omega)⟩
    refine wpAnyH_ready (rs := [9]) (by kernel_rfl) (by simp) ?_
    refine AllReadyH.cons (o := ⟨none, .store 25 (.tmp 53) (.tmp 51), 0, "ref.go:144", #[⟨8, .data⟩, ⟨6, .data⟩, ⟨4, .chain⟩, ⟨0, .phase⟩, ⟨1, .phase⟩, ⟨2, .phase⟩, ⟨3, .phase⟩, ⟨4, .phase⟩, ⟨5, .phase⟩, ⟨6, .phase⟩, ⟨7, .textOnly .lateStores⟩], none⟩) rfl (fun K hK => ?_) AllReadyH.nil
    rw [if_pos (by rfl)]
    refine wp_store_mid 25 _ _ rfl g 65 #[.int .i64 sr, .int .i64 ss] (by rfl) (by rfl) hP.there sizeSg3 (by simpa using hP.one) ?_
    generalize hWq : World.setCells _ _ _ _ = Wa
    obtain rfl : V9 = Wa := by rw [← hWq]; exact hP.eq
    clear hWq
    refine hK.out _ _ hNew (fun hHeld2 => ?_)
    clear hHeld hBg4
    have hHeld := hHeld2
    clear hHeld2
    clear hK K
    try simp only [Act.put]
    refine wpAnyH_done (by kernel_rfl) ?_ _
    have hBg : Blk V9 g 27 (rC R2) := by rw [← hR2.out]; exact hP.blk
    have hBt := hHeld.1
    have hBz := hHeld.2.1
    have hbv := hHeld.2.2.2
    clear hHeld hNew hP
    have e0 := hBt.at_ hr0.out
    have e1 := hBt.at_ hr1.out
    have e2 := hBt.at_ hr2.out
    go_wp2_with fail
    have hM2 : ThW w tb D.priv la ln lc zz g (rC R2) V9 := ⟨⟨ra, rn, rc, by rw [hrr.out]; exact hBt⟩, hBz, hBg, hbv⟩
    refine wp_region_held_drew (S := fun wz => ThW w tb D.priv la ln lc zz g (rC R2) wz) (by kernel_rfl) (hM2.drew) (fun hHeld => ?_)
    have hBt0 : Blk V9.drew tb 34 rr := hBt
    have hM3 := hM2.drew
    clear hBt hBg hBz hbv e0 e1 e2 hM2
    generalize V9.drew = V0 at *
    obtain ⟨B0, hB0⟩ : ∃ B0, Hid (V0.heap.size = B0) := ⟨_, rfl⟩
    have hgl := hM3.2.2.1.lt
    have hzl := hM3.2.1.lt
    have hwl := hM3.2.2.2.size
    have hbl0 := hBt0.lt
    obtain ⟨VZ, hVZ⟩ : ∃ V, V = V0 := ⟨_, rfl⟩
    have bB : Below V0.heap.size V0 VZ := by rw [hVZ]; exact Below.refl _ _
    rw [← hVZ] at hHeld hM3 ⊢
    rw [hB0.out] at hgl hzl hwl bB hbl0
    clear hVZ
    refine wpAnyH_take (i := 1) (oi := ⟨some 55, .fieldAddr 34 (.tmp 1) 2, 0, "ref.go:145", #[], none⟩) (v := ?_) rfl (by kernel_rfl) (by kernel_rfl) (by kernel_rfl) (fun _ _ _ h => h) (Or.inl ⟨by rfl, ?_⟩) hHeld ?_
    rotate_left
    · intro wz hSw
      go_simp
      all_goals (with_reducible rfl)
    try simp only [Act.put, List.setIfInBounds_toArray, List.set_cons_zero, List.set_cons_succ]
    refine wpAnyH_take (i := 4) (oi := ⟨some 58, .load 27 (.tmp 5), 27, "ref.go:145", #[], none⟩) rfl (by kernel_rfl) (by kernel_rfl) (by kernel_rfl) (fun _ _ _ h => h) (yieldsIf_load_mid (by rfl) _ _ rfl g 0 rfl (rC R2) _ (fun wz h => h.2.2.1.range) Tryz.underlying27 rfl (zR2.out)) hHeld ?_
    try simp only [Act.put, List.setIfInBounds_toArray, List.set_cons_zero, List.set_cons_succ]
    refine share (G := ∀ (e5 : Nat) (g5 : Nat) (v1 : Value) (WZ : World), (ThW w tb D.priv la ln lc zz g (rC R2) WZ) → (Below B0 V0 WZ) → (World.ownsRow WZ B0 27 67 v1 rn rows.flatten) → (Blk WZ g5 27 (rC R2)) → (B0 ≤ g5) → (?GS0235A : Nat → Nat → Value → World → Prop) e5 g5 v1 WZ) ?hS0235A ?kS0235A
    case' hS0235A => intro KS0235A
    case' hS0235A =>
     refine share (G := ∀ (e5 : Nat) (v1 : Value) (WZ : World), (ThW w tb D.priv la ln lc zz g (rC R2) WZ) → (Below B0 V0 WZ) → (World.ownsRow WZ B0 27 67 v1 rn rows.flatten) → (?GS023A : Nat → Value → World → Prop) e5 v1 WZ) ?hS023A ?kS023A
    case' hS023A => intro KS023A
    case' hS023A =>
     refine share (G := ∀ (e5 : Nat) (g5 : Nat) (WZ : World), (ThW w tb D.priv la ln lc zz g (rC R2) WZ) → (Below B0 V0 WZ) → (World.ownsRow WZ B0 27 67 (.slice (some ⟨e5, 0, none⟩) 0 0) 0 []) → (Blk WZ g5 27 (rC R2)) → (B0 ≤ g5) → (e5 ≠ g5) → (?GS025A : Nat → Nat → World → Prop) e5 g5 WZ) ?hS025A ?kS025A
    case' hS025A => intro KS025A
    case' hS025A =>
     refine share (G := ∀ (e5 : Nat) (WZ : World), (ThW w tb D.priv la ln lc zz g (rC R2) WZ) → (Below B0 V0 WZ) → (World.ownsRow WZ B0 27 67 (.slice (some ⟨e5, 0, none⟩) 0 0) 0 []) → (?GS02A : Nat → World → Prop) e5 WZ) ?hS02A ?kS02A
    case' hS02A => intro KS02A
    case' hS02A =>
     refine share (G := ∀ (e5 : Nat) (g5 : Nat) (WZ : World), (ThW w tb D.priv la ln lc zz g (rC R2) WZ) → (Below B0 V0 WZ) → (World.ownsRow WZ B0 27 67 (.slice (some ⟨e5, 0, none⟩) 0 0) 0 []) → (Blk WZ g5 27 (rC R2)) → (B0 ≤ g5) → (e5 ≠ g5) → (?GS05A : Nat → Nat → World → Prop) e5 g5 WZ) ?hS05A ?kS05A
    case' hS05A => intro KS05A
    case' hS05A =>
     refine share (G := ∀ (g5 : Nat) (WZ : World), (ThW w tb D.priv la ln lc zz g (rC R2) WZ) → (Below B0 V0 WZ) → (Blk WZ g5 27 (rC R2)) → (B0 ≤ g5) → (?GS25A : Nat → World → Prop) g5 WZ) ?hS25A ?kS25A
    case' hS25A => intro KS25A
    case' hS25A =>
     refine share (G := ∀ (e5 : Nat) (WZ : World), (ThW w tb D.priv la ln lc zz g (rC R2) WZ) → (Below B0 V0 WZ) → (World.ownsRow WZ B0 27 67 (.slice (some ⟨e5, 0, none⟩) 0 0) 0 []) → (?GS0A : Nat → World → Prop) e5 WZ) ?hS0A ?kS0A
    case' hS0A => intro KS0A
    case' hS0A =>
     refine share (G := ∀ (WZ : World), (ThW w tb D.priv la ln lc zz g (rC R2) WZ) → (Below B0 V0 WZ) → (?GS2A : World → Prop) WZ) ?hS2A ?kS2A
    case' hS2A => intro KS2A
    case' hS2A =>
     refine share (G := ∀ (g5 : Nat) (WZ : World), (ThW w tb D.priv la ln lc zz g (rC R2) WZ) → (Below B0 V0 WZ) → (Blk WZ g5 27 (rC R2)) → (B0 ≤ g5) → (?GS5A : Nat → World → Prop) g5 WZ) ?hS5A ?kS5A
    case' hS5A => intro KS5A
    case hS5A =>
     have hHeld := hM3
     refine wpAnyH_ready (rs := [0, 2, 5]) (by kernel_rfl) (by simp) ?_
     refine AllReadyH.cons (o := ⟨some 54, .buildSlice 32 0 #[], 32, "ref.go:145", #[], none⟩) rfl (fun K hK => ?_) (AllReadyH.cons (o := ⟨some 56, .load 32 (.tmp 55), 32, "ref.go:145", #[⟨1, .data⟩], none⟩) rfl (fun K hK => ?_) (AllReadyH.cons (o := ⟨some 59, .buildSlice 32 1 #[(0, .tmp 58)], 32, "ref.go:145", #[⟨4, .data⟩], none⟩) rfl (fun K hK => ?_) AllReadyH.nil))
     case refine_1 =>
      rw [if_pos (by rfl)]
      refine wp_buildSlice_run 32 0 #[] rfl #[] (by simp) (empty_roots VZ) ?_
      refine hK.out _ _ (hHeld.next ((Below.refl _ VZ).alloc (Nat.le_refl _) _)) (fun hHeld2 => ?_)
      clear hK K
      try simp only [Act.put, List.setIfInBounds_toArray, List.set_cons_zero, List.set_cons_succ]
      have bB2 := bB.alloc (hB0.out ▸ bB.size) (.cells #[] 27)
      have hE2 := Sl.owns_mono (own_newR VZ) (hB0.out ▸ bB.size)
      generalize VZ.heap.size = e5 at *
      generalize World.alloc VZ _ = W2 at *
      exact KS0A e5 W2 (hHeld2) (bB2) (hE2)
     case refine_2 =>
      rw [if_pos (by rfl)]
      have q0 := (hBt0.below bB (by omega)).at_ hr2.out
      show Oper.wp _ _ _ _ K _
      go_simp
      refine hK.out _ _ hHeld (fun hHeld2 => ?_)
      clear hK K q0
      try simp only [Act.put, List.setIfInBounds_toArray, List.set_cons_zero, List.set_cons_succ]
      exact KS2A  VZ (hHeld2) (bB)
     case refine_3 =>
      rw [if_pos (by rfl)]
      refine wp_buildSlice_run _ _ _ rfl #[(0, .agg (rC R2).toArray)] (by simp only [List.map_toArray, List.map_cons, List.map_nil]; rfl) (root_slice1 hok3.out _) ?_
      refine hK.out _ _ (hHeld.next ((Below.refl _ VZ).alloc (Nat.le_refl _) _)) (fun hHeld2 => ?_)
      clear hK K
      try simp only [Act.put, List.setIfInBounds_toArray, List.set_cons_zero, List.set_cons_succ]
      have bB2 := bB.alloc (hB0.out ▸ bB.size) (.cells (rC R2).toArray 27)
      have hG2 := Blk.new VZ 27 (rC R2)
      have hGl2 := (hB0.out ▸ bB.size)
      generalize VZ.heap.size = g5 at *
      generalize World.alloc VZ _ = W2 at *
      exact KS5A g5 W2 (hHeld2) (bB2) (hG2) (hGl2)
    case kS0A =>
     intro e5 WZ hHeld bB hE
     refine wpAnyH_ready (rs := [2, 5]) (by kernel_rfl) (by simp) ?_
     refine AllReadyH.cons (o := ⟨some 56, .load 32 (.tmp 55), 32, "ref.go:145", #[⟨1, .data⟩], none⟩) rfl (fun K hK => ?_) (AllReadyH.cons (o := ⟨some 59, .buildSlice 32 1 #[(0, .tmp 58)], 32, "ref.go:145", #[⟨4, .data⟩], none⟩) rfl (fun K hK => ?_) AllReadyH.nil)
     case refine_1 =>
      rw [if_pos (by rfl)]
      have q0 := (hBt0.below bB (by omega)).at_ hr2.out
      show Oper.wp _ _ _ _ K _
      go_simp
      refine hK.out _ _ hHeld (fun hHeld2 => ?_)
      clear hK K q0
      try simp only [Act.put, List.setIfInBounds_toArray, List.set_cons_zero, List.set_cons_succ]
      exact KS02A e5 WZ (hHeld2) (bB) (hE)
     case refine_2 =>
      rw [if_pos (by rfl)]
      refine wp_buildSlice_run _ _ _ rfl #[(0, .agg (rC R2).toArray)] (by simp only [List.map_toArray, List.map_cons, List.map_nil]; rfl) (root_slice1 hok3.out _) ?_
      refine hK.out _ _ (hHeld.next ((Below.refl _ WZ).alloc (Nat.le_refl _) _)) (fun hHeld2 => ?_)
      clear hK K
      try simp only [Act.put, List.setIfInBounds_toArray, List.set_cons_zero, List.set_cons_succ]
      have bB2 := bB.alloc (hB0.out ▸ bB.size) (.cells (rC R2).toArray 27)
      have hG2 := Blk.new WZ 27 (rC R2)
      have hGl2 := (hB0.out ▸ bB.size)
      have hE2 := World.ownsRow.alloc hE (.cells (rC R2).toArray 27)
      have hN2 : e5 ≠ WZ.heap.size := by have := (World.ownsRow.lt hE e5 rfl).2; omega
      generalize WZ.heap.size = g5 at *
      generalize World.alloc WZ _ = W2 at *
      exact KS05A e5 g5 W2 (hHeld2) (bB2) (hE2) (hG2) (hGl2) (hN2)
    case kS2A =>
     intro  WZ hHeld bB
     refine wpAnyH_ready (rs := [0, 5]) (by kernel_rfl) (by simp) ?_
     refine AllReadyH.cons (o := ⟨some 54, .buildSlice 32 0 #[], 32, "ref.go:145", #[], none⟩) rfl (fun K hK => ?_) (AllReadyH.cons (o := ⟨some 59, .buildSlice 32 1 #[(0, .tmp 58)], 32, "ref.go:145", #[⟨4, .data⟩], none⟩) rfl (fun K hK => ?_) AllReadyH.nil)
     case refine_1 =>
      rw [if_pos (by rfl)]
      refine wp_buildSlice_run 32 0 #[] rfl #[] (by simp) (empty_roots WZ) ?_
      refine hK.out _ _ (hHeld.next ((Below.refl _ WZ).alloc (Nat.le_refl _) _)) (fun hHeld2 => ?_)
      clear hK K
      try simp only [Act.put, List.setIfInBounds_toArray, List.set_cons_zero, List.set_cons_succ]
      have bB2 := bB.alloc (hB0.out ▸ bB.size) (.cells #[] 27)
      have hE2 := Sl.owns_mono (own_newR WZ) (hB0.out ▸ bB.size)
      generalize WZ.heap.size = e5 at *
      generalize World.alloc WZ _ = W2 at *
      exact KS02A e5 W2 (hHeld2) (bB2) (hE2)
     case refine_2 =>
      rw [if_pos (by rfl)]
      refine wp_buildSlice_run _ _ _ rfl #[(0, .agg (rC R2).toArray)] (by simp only [List.map_toArray, List.map_cons, List.map_nil]; rfl) (root_slice1 hok3.out _) ?_
      refine hK.out _ _ (hHeld.next ((Below.refl _ WZ).alloc (Nat.le_refl _) _)) (fun hHeld2 => ?_)
      clear hK K
      try simp only [Act.put, List.setIfInBounds_toArray, List.set_cons_zero, List.set_cons_succ]
      have bB2 := bB.alloc (hB0.out ▸ bB.size) (.cells (rC R2).toArray 27)
      have hG2 := Blk.new WZ 27 (rC R2)
      have hGl2 := (hB0.out ▸ bB.size)
      generalize WZ.heap.size = g5 at *
      generalize World.alloc WZ _ = W2 at *
      exact KS25A g5 W2 (hHeld2) (bB2) (hG2) (hGl2)
    case kS5A =>
     intro g5 WZ hHeld bB hG hGl
     refine wpAnyH_ready (rs := [0, 2]) (by kernel_rfl) (by simp) ?_
     refine AllReadyH.cons (o := ⟨some 54, .buildSlice 32 0 #[], 32, "ref.go:145", #[], none⟩) rfl (fun K hK => ?_) (AllReadyH.cons (o := ⟨some 56, .load 32 (.tmp 55), 32, "ref.go:145", #[⟨1, .data⟩], none⟩) rfl (fun K hK => ?_) AllReadyH.nil)
     case refine_1 =>
      rw [if_pos (by rfl)]
      refine wp_buildSlice_run 32 0 #[] rfl #[] (by simp) (empty_roots WZ) ?_
      refine hK.out _ _ (hHeld.next ((Below.refl _ WZ).alloc (Nat.le_refl _) _)) (fun hHeld2 => ?_)
      clear hK K
      try simp only [Act.put, List.setIfInBounds_toArray, List.set_cons_zero, List.set_cons_succ]
      have bB2 := bB.alloc (hB0.out ▸ bB.size) (.cells #[] 27)
      have hE2 := Sl.owns_mono (own_newR WZ) (hB0.out ▸ bB.size)
      have hG2 := hG.alloc (.cells #[] 27)
      have hN2 : WZ.heap.size ≠ g5 := by have := hG.lt; omega
      generalize WZ.heap.size = e5 at *
      generalize World.alloc WZ _ = W2 at *
      exact KS05A e5 g5 W2 (hHeld2) (bB2) (hE2) (hG2) (hGl) (hN2)
     case refine_2 =>
      rw [if_pos (by rfl)]
      have q0 := (hBt0.below bB (by omega)).at_ hr2.out
      show Oper.wp _ _ _ _ K _
      go_simp
      refine hK.out _ _ hHeld (fun hHeld2 => ?_)
      clear hK K q0
      try simp only [Act.put, List.setIfInBounds_toArray, List.set_cons_zero, List.set_cons_succ]
      exact KS25A g5 WZ (hHeld2) (bB) (hG) (hGl)
    case kS02A =>
     intro e5 WZ hHeld bB hE
     refine wpAnyH_ready (rs := [3, 5]) (by kernel_rfl) (by simp) ?_
     refine AllReadyH.cons (o := ⟨some 57, .call { callee := .builtin .append, args := #[.tmp 54, .tmp 56], argTypes := #[32, 32] }, 32, "ref.go:145", #[⟨0, .data⟩, ⟨2, .data⟩], none⟩) rfl (fun K hK => ?_) (AllReadyH.cons (o := ⟨some 59, .buildSlice 32 1 #[(0, .tmp 58)], 32, "ref.go:145", #[⟨4, .data⟩], none⟩) rfl (fun K hK => ?_) AllReadyH.nil)
     case refine_1 =>
      rw [if_pos (by rfl)]
      obtain ⟨v1, W2, hr1, hO2, hgr⟩ := append_rs hE (reads_holds hRd.out (hHeld.2.2.2)) (fun e => (hnil.out e).1) hRd.out.len hrone.out (by omega) (hB0.out ▸ bB.size)
      have hgr2 := (Below.refl B0 WZ).grown hgr (hB0.out ▸ bB.size) (fun k e => (World.ownsRow.lt hE k e).1)
      have hHeld2 : ThW w tb D.priv la ln lc zz g (rC R2) W2 := hHeld.nextB hgr2 hzl hgl hwl
      have bB2 := bB.trans hgr2
      refine wp_append_run rfl _ _ (by rfl) (by rfl) (hr1 _) ?_
      refine hK.out _ _ hHeld2 (fun _ => ?_)
      clear hK K
      try simp only [Act.put, List.setIfInBounds_toArray, List.set_cons_zero, List.set_cons_succ]
      rw [List.nil_append, Nat.zero_add] at hO2
      exact KS023A e5 v1 W2 (hHeld2) (bB2) (hO2)
     case refine_2 =>
      rw [if_pos (by rfl)]
      refine wp_buildSlice_run _ _ _ rfl #[(0, .agg (rC R2).toArray)] (by simp only [List.map_toArray, List.map_cons, List.map_nil]; rfl) (root_slice1 hok3.out _) ?_
      refine hK.out _ _ (hHeld.next ((Below.refl _ WZ).alloc (Nat.le_refl _) _)) (fun hHeld2 => ?_)
      clear hK K
      try simp only [Act.put, List.setIfInBounds_toArray, List.set_cons_zero, List.set_cons_succ]
      have bB2 := bB.alloc (hB0.out ▸ bB.size) (.cells (rC R2).toArray 27)
      have hG2 := Blk.new WZ 27 (rC R2)
      have hGl2 := (hB0.out ▸ bB.size)
      have hE2 := World.ownsRow.alloc hE (.cells (rC R2).toArray 27)
      have hN2 : e5 ≠ WZ.heap.size := by have := (World.ownsRow.lt hE e5 rfl).2; omega
      generalize WZ.heap.size = g5 at *
      generalize World.alloc WZ _ = W2 at *
      exact KS025A e5 g5 W2 (hHeld2) (bB2) (hE2) (hG2) (hGl2) (hN2)
    case kS05A =>
     intro e5 g5 WZ hHeld bB hE hG hGl hN
     refine wpAnyH_ready (rs := [2]) (by kernel_rfl) (by simp) ?_
     refine AllReadyH.cons (o := ⟨some 56, .load 32 (.tmp 55), 32, "ref.go:145", #[⟨1, .data⟩], none⟩) rfl (fun K hK => ?_) AllReadyH.nil
     rw [if_pos (by rfl)]
     have q0 := (hBt0.below bB (by omega)).at_ hr2.out
     show Oper.wp _ _ _ _ K _
     go_simp
     refine hK.out _ _ hHeld (fun hHeld2 => ?_)
     clear hK K q0
     try simp only [Act.put, List.setIfInBounds_toArray, List.set_cons_zero, List.set_cons_succ]
     exact KS025A e5 g5 WZ (hHeld2) (bB) (hE) (hG) (hGl) (hN)
    case kS25A =>
     intro g5 WZ hHeld bB hG hGl
     refine wpAnyH_ready (rs := [0]) (by kernel_rfl) (by simp) ?_
     refine AllReadyH.cons (o := ⟨some 54, .buildSlice 32 0 #[], 32, "ref.go:145", #[], none⟩) rfl (fun K hK => ?_) AllReadyH.nil
     rw [if_pos (by rfl)]
     refine wp_buildSlice_run 32 0 #[] rfl #[] (by simp) (empty_roots WZ) ?_
     refine hK.out _ _ (hHeld.next ((Below.refl _ WZ).alloc (Nat.le_refl _) _)) (fun hHeld2 => ?_)
     clear hK K
     try simp only [Act.put, List.setIfInBounds_toArray, List.set_cons_zero, List.set_cons_succ]
     have bB2 := bB.alloc (hB0.out ▸ bB.size) (.cells #[] 27)
     have hE2 := Sl.owns_mono (own_newR WZ) (hB0.out ▸ bB.size)
     have hG2 := hG.alloc (.cells #[] 27)
     have hN2 : WZ.heap.size ≠ g5 := by have := hG.lt; omega
     generalize WZ.heap.size = e5 at *
     generalize World.alloc WZ _ = W2 at *
     exact KS025A e5 g5 W2 (hHeld2) (bB2) (hE2) (hG2) (hGl) (hN2)
    case kS023A =>
     intro e5 v1 WZ hHeld bB hO
     refine wpAnyH_ready (rs := [5]) (by kernel_rfl) (by simp) ?_
     refine AllReadyH.cons (o := ⟨some 59, .buildSlice 32 1 #[(0, .tmp 58)], 32, "ref.go:145", #[⟨4, .data⟩], none⟩) rfl (fun K hK => ?_) AllReadyH.nil
     rw [if_pos (by rfl)]
     refine wp_buildSlice_run _ _ _ rfl #[(0, .agg (rC R2).toArray)] (by simp only [List.map_toArray, List.map_cons, List.map_nil]; rfl) (root_slice1 hok3.out _) ?_
     refine hK.out _ _ (hHeld.next ((Below.refl _ WZ).alloc (Nat.le_refl _) _)) (fun hHeld2 => ?_)
     clear hK K
     try simp only [Act.put, List.setIfInBounds_toArray, List.set_cons_zero, List.set_cons_succ]
     have bB2 := bB.alloc (hB0.out ▸ bB.size) (.cells (rC R2).toArray 27)
     have hG2 := Blk.new WZ 27 (rC R2)
     have hGl2 := (hB0.out ▸ bB.size)
     have hO2 := World.ownsRow.alloc hO (.cells (rC R2).toArray 27)
     generalize WZ.heap.size = g5 at *
     generalize World.alloc WZ _ = W2 at *
     exact KS0235A e5 g5 v1 W2 (hHeld2) (bB2) (hO2) (hG2) (hGl2)
    case kS025A =>
     intro e5 g5 WZ hHeld bB hE hG hGl hN
     refine wpAnyH_ready (rs := [3]) (by kernel_rfl) (by simp) ?_
     refine AllReadyH.cons (o := ⟨some 57, .call { callee := .builtin .append, args := #[.tmp 54, .tmp 56], argTypes := #[32, 32] }, 32, "ref.go:145", #[⟨0, .data⟩, ⟨2, .data⟩], none⟩) rfl (fun K hK => ?_) AllReadyH.nil
     rw [if_pos (by rfl)]
     obtain ⟨v1, W2, hr1, hO2, hgr⟩ := append_rs hE (reads_holds hRd.out (hHeld.2.2.2)) (fun e => (hnil.out e).1) hRd.out.len hrone.out (by omega) (hB0.out ▸ bB.size)
     have hgr2 := (Below.refl B0 WZ).grown hgr (hB0.out ▸ bB.size) (fun k e => (World.ownsRow.lt hE k e).1)
     have hHeld2 : ThW w tb D.priv la ln lc zz g (rC R2) W2 := hHeld.nextB hgr2 hzl hgl hwl
     have bB2 := bB.trans hgr2
     have hG2 := hG.grown hgr (fun e => by injection e with e; exact hN e.symm)
     refine wp_append_run rfl _ _ (by rfl) (by rfl) (hr1 _) ?_
     refine hK.out _ _ hHeld2 (fun _ => ?_)
     clear hK K
     try simp only [Act.put, List.setIfInBounds_toArray, List.set_cons_zero, List.set_cons_succ]
     rw [List.nil_append, Nat.zero_add] at hO2
     exact KS0235A e5 g5 v1 W2 (hHeld2) (bB2) (hO2) (hG2) (hGl)
    case kS0235A =>
     intro e5 g5 v1 WZ hHeld bB hO hG hGl
     refine wpAnyH_ready (rs := [6]) (by kernel_rfl) (by simp) ?_
     refine AllReadyH.cons (o := ⟨some 60, .call { callee := .builtin .append, args := #[.tmp 57, .tmp 59], argTypes := #[32, 32] }, 32, "ref.go:145", #[⟨3, .data⟩, ⟨5, .data⟩, ⟨3, .chain⟩], none⟩) rfl (fun K hK => ?_) AllReadyH.nil
     rw [if_pos (by rfl)]
     obtain ⟨v2, w', hr6, hown, hgr6⟩ := append_rs (a := some ⟨g5, 0, none⟩) (n := 1) (c := 1) (ys := rC R2) hO (fun b e j u hu => by cases e; rw [Addr.add_lit, Nat.zero_add]; exact hG.at_ hu) (fun e => by cases e) (by rw [rC_length hok3.out]) (rC_one R2) (by omega) (hB0.out ▸ bB.size)
     have hbg := (Below.refl B0 WZ).grown hgr6 (hB0.out ▸ bB.size) (fun k e => (World.ownsRow.lt hO k e).1)
     have hBt2 := (hBt0.below bB (by omega)).below hbg (by omega)
     refine wp_append_run rfl _ _ (by rfl) (by rfl) (hr6 _) ?_
     refine hK.out _ _ (hHeld.nextB hbg hzl hgl hwl) (fun hHeld2 => ?_)
     clear hHeld hK K
     have hHeld := hHeld2
     clear hHeld2
     try simp only [Act.put, List.setIfInBounds_toArray, List.set_cons_zero, List.set_cons_succ]
     obtain ⟨a2, c2, hv2, hQ⟩ := qs_snoc (K := fun b => B0 ≤ b) hRo.out hok3.out hrn.out hown (fun b h => h)
     subst hv2
     clear hown hgr6 hbg hr6
     refine wpAnyH_take (i := 7) (oi := ⟨some 61, .fieldAddr 34 (.tmp 1) 2, 0, "ref.go:145", #[⟨0, .phase⟩, ⟨1, .phase⟩, ⟨2, .phase⟩, ⟨3, .phase⟩, ⟨4, .phase⟩, ⟨5, .phase⟩, ⟨6, .phase⟩], none⟩) (v := ?_) rfl (by kernel_rfl) (by kernel_rfl) (by kernel_rfl) (fun _ _ _ h => h) (Or.inl ⟨by rfl, ?_⟩) hHeld ?_
     rotate_left
     · intro wz hSw
       go_simp
       all_goals (with_reducible rfl)
     try simp only [Act.put, List.setIfInBounds_toArray, List.set_cons_zero, List.set_cons_succ]
     refine wpAnyH_ready (rs := [8]) (by kernel_rfl) (by simp) ?_
     refine AllReadyH.cons (o := ⟨none, .store 32 (.tmp 61) (.tmp 60), 0, "ref.go:145", #[⟨7, .data⟩, ⟨6, .data⟩, ⟨6, .chain⟩, ⟨0, .phase⟩, ⟨1, .phase⟩, ⟨2, .phase⟩, ⟨3, .phase⟩, ⟨4, .phase⟩, ⟨5, .phase⟩, ⟨6, .phase⟩], none⟩) rfl (fun K hK => ?_) AllReadyH.nil
     rw [if_pos (by rfl)]
     have q2 := hBt2.at_ hr2.out
     have f2 := hBt2.frozen 2
     show Oper.wp _ _ _ _ K _
     go_simp
     have hset := hBt2.set 2 (.slice a2 (rn + 1) c2)
     rw [hrs.out] at hset
     have hgs2 : w'.grownBy (w'.setCell ⟨tb, 2, none⟩ (.slice a2 (rn + 1) c2)) (some tb) := grown_set (World.grownBy.refl w' _) (.inl rfl) _
     have hNew : ThW w tb D.priv la ln lc zz g (rC R2) (w'.setCell ⟨tb, 2, none⟩ (.slice a2 (rn + 1) c2)) := ⟨⟨a2, rn + 1, c2, hset⟩, hHeld.2.1.grown hgs2 (by intro e; injection e; omega), hHeld.2.2.1.grown hgs2 (by intro e; injection e; omega), hHeld.2.2.2.grown hgs2 hHeld.2.2.2.size (fun k e => by cases e; omega)⟩
     have hQ2 : QS (fun b => B0 ≤ b) (w'.setCell ⟨tb, 2, none⟩ (.slice a2 (rn + 1) c2)) a2 (rn + 1) c2 (D.rs ++ [R2]) := hQ.keep (Keeps.grown hgs2 (fun b hb e => by omega))
     refine hK.out _ _ hNew (fun _ => ?_)
     clear hHeld hK K hBt2 hQ q2 f2 hgs2
     try simp only [Act.put, List.setIfInBounds_toArray, List.set_cons_zero, List.set_cons_succ]
     refine wpAnyH_done (by kernel_rfl) ?_ _
     generalize w'.setCell ⟨tb, 2, none⟩ (.slice a2 (rn + 1) c2) = V5 at *
     have hone : ∀ u ∈ dirC D.priv la ln lc a2 (rn + 1) c2, u.oneCell' = true := by intro u hu; simp only [dirC, List.mem_cons, List.not_mem_nil, or_false] at hu; rcases hu with rfl | rfl | rfl <;> rfl
     obtain ⟨W9, hP⟩ := put_row (ty := 34) hNew.2.1 (x := dirC D.priv la ln lc a2 (rn + 1) c2) (by rw [← hzz.out]; rfl) sizeDr hone
     have hfin := Lib.hid (hX.out a2 (rn + 1) c2 W9 (QS.keep (QS.imp hQ2 (fun b _ hb => hb)) (Keeps.grown hP.grown (fun b hb e => by omega)) |>.imp (fun b _ hb => by omega)) (below_grown hNew.2.2.2 hP.grown hNew.2.2.2.size (by omega)))
     have hsr := Lib.hid hset.range
     have hP' := Lib.hid hP
     have hbk := Lib.hid hP.blk
     have hzi : Hid ((Tryz.prog.info? 34).map (·.size) = some (dirC D.priv la ln lc a2 (rn + 1) c2).length) := sizeDr
     obtain ⟨r2, hr2e⟩ : ∃ r2, Hid (dirC D.priv la ln lc a2 (rn + 1) c2 = r2) := ⟨_, rfl⟩
     rw [hr2e.out] at hsr hP' hbk hzi hfin
     clear hQ2 hNew hset hP hone hX
     go_wp2_with (first
      | (refine wpList_load_mid (by rfl) 34 (.tmp 1) (by rfl) tb 0 (by rfl) r2 _ hsr.out Tryz.underlying34 (by rfl) hzi.out ?_)
       | (refine wpList_store_mid (by rfl) 34 (.tmp 2) (.tmp 62) (by rfl) (tb + 1) 0 r2.toArray (by rfl) (by rfl) hP'.out.there hP'.out.info (by simpa using hP'.out.one) ?_
          generalize hWq : World.setCells _ _ _ _ = Wa
          obtain rfl : W9 = Wa := by rw [← hWq]; exact hP'.out.eq
          clear hWq))
     refine ret_cell_tmp (p := 2) (u := 3) rfl hbk.out Tryz.underlying34 rfl hzi.out rfl rfl rfl ?_
     exact hfin.out
  · obtain ⟨k, hk1⟩ : ∃ k, Hid (rn = k + 1) := ⟨rn - 1, by have := hrn.out; show _ = _; omega⟩
    have hg1 : 0 < rn := by have := hk1.out; omega
    have hg0 : decide (0 < rn) = true := decide_eq_true hg1
    have hkl : k < D.rs.length := by have := hrn.out; have := hk1.out; omega
    obtain ⟨x, hx⟩ : ∃ x, D.rs[k]? = some x := ⟨_, List.getElem?_eq_getElem hkl⟩
    obtain ⟨b, off, hra, hbl2, _, hox, hrg0⟩ := (hqs.out.below hb2.out).cells hx
    have hpv2 : Hid (Go.Dr.prevOf D.rs = Go.Dr.idR x) := by
     show _ = _
     unfold Go.Dr.prevOf
     rw [List.getLast?_eq_getElem?, show D.rs.length - 1 = k by have := hrn.out; have := hk1.out; omega, hx]
    have hrg := Lib.hid hrg0
    have hxi : Hid ((Tryz.prog.info? 27).map (·.size) = some (rC x).length) := by show _ = _; rw [rC_length hox]; exact sizeR
    have hid := Lib.hid (r35id_any x hox w2)
    obtain ⟨P0, hP0⟩ : ∃ P0, Hid (Go.Dr.idR x = P0) := ⟨_, rfl⟩
    have hPl : Hid (P0.length = 32 ∧ ∀ u ∈ P0, u < 256) := by rw [← hP0.out]; exact ⟨Sha.tagged_length _ _, Sha.tagged_lt _ _⟩
    rw [hP0.out] at hid hpv2
    have hsub : (rn : Int) - 1 = (k : Int) := by have := hk1.out; omega
    have k0 : (0 : Int) ≤ (k : Int) := by omega
    have k1 : (k : Int) < (rn : Int) := by omega
    rw [hra] at e2
    clear hra
    obtain ⟨rx, hrx⟩ : ∃ rx, Hid (rC x = rx) := ⟨_, rfl⟩
    rw [hrx.out] at hrg hxi hid
    clear hx hrg0 hkl hne hbl2 hox
    go_wp2_with (first
     | (refine wpList_load_mid (by rfl) 27 (.tmp 41) (by rfl) b (off + k * 67) (by rfl) rx _ hrg.out Tryz.underlying27 (by rfl) hxi.out ?_))
    refine hid.out.mono ?_
    rintro e w3 ⟨rfl, hb3⟩
    have hB3 := hB8.below hb3 hB8.lt
    obtain ⟨W4, hP4⟩ := put_prev hR0.out hB3 hPl.out.1
    have hBt4 := (hBt.below hb3 hBt.lt).grown hP4.grown (by intro e; injection e; omega)
    have hBz4 := (hBz.below hb3 hBz.lt).grown hP4.grown (by intro e; injection e; omega)
    have hb4 : Hid (Below w.heap.size w W4) := (hb2.out.trans (hb3.mono hb2.out.size)).grown hP4.grown (Nat.le_trans hb2.out.size hb3.size) (fun r e => by cases e; omega)
    have hBg := hP4.blk
    have hP4' := Lib.hid hP4
    have hPi : Hid ((Tryz.prog.info? 23).map (·.size) = some (bv P0).toArray.size) := by show _ = _; rw [List.size_toArray, bv_length, hPl.out.1]; exact size35
    have e4 := hBt4.at_ hr2.out
    have hok1 := Lib.hid ((⟨hR0.out.no, hR0.out.dig, hR0.out.digl, hPl.out.1, hPl.out.2, hR0.out.r, hR0.out.s⟩ : OkQ { R0 with prev := P0 }))
    obtain ⟨R1, hR1⟩ : ∃ R1, Hid (({ R0 with prev := P0 } : Rt) = R1) := ⟨_, rfl⟩
    have hbase : Hid (Go.Dr.baseR D = R1) := by
     show _ = _
     rw [← hR1.out, ← hR0e.out]
     unfold Go.Dr.baseR
     rw [hD0.out, hpv2.out, hrn.out]
    rw [hR1.out] at hok1 hBg
    have zR1 : Hid ((Tryz.prog.info? 27).map (·.size) = some (rC R1).length) := by show _ = _; rw [rC_length hok1.out]; exact sizeR
    obtain ⟨sr, ss, hsg, hsr, hss⟩ := signK_at hk (Go.Dr.msgR R1)
    have hml : Hid ((Go.Dr.msgR R1).length = 72) := by show _ = _; unfold Go.Dr.msgR Go.Dr.num8; simp [hok1.out.dig, hok1.out.prev, Sha.be_length]
    have hok2 : Hid (OkQ { R1 with r := sr, s := ss }) := ⟨hok1.out.no, hok1.out.dig, hok1.out.digl, hok1.out.prev, hok1.out.prevl, hsr, hss⟩
    have hsn : Hid (∀ (a2 : Option Addr) (c2 : Nat) (W : World), BS W a2 72 c2 (Go.Dr.msgR R1) → Calls Tryz.prog 64 #[.int .i64 D.priv, .slice a2 72 c2] W (fun e w' => e = .returned (.tuple #[.agg #[.int .i64 sr, .int .i64 ss], .int .i64 0]) ∧ Below W.heap.size W w')) := fun a2 c2 W hS => by
     have := r5sign_any D.priv a2 72 c2 (Go.Dr.msgR R1) W (bw_of hS) (by omega)
     rw [hsg] at this
     exact this
    obtain ⟨R2, hR2⟩ : ∃ R2 : Rt, Hid ({ R1 with r := sr, s := ss } = R2) := ⟨_, rfl⟩
    have hok3 := hok2
    rw [hR2.out] at hok3
    have zR2 : Hid ((Tryz.prog.info? 27).map (·.size) = some (rC R2).length) := by show _ = _; rw [rC_length hok3.out]; exact sizeR
    have hnx : Hid (Go.Dr.nextR 4 D = R2) := by
     show _ = _
     unfold Go.Dr.nextR
     rw [hbase.out, hsg, ← hR2.out]
    have hX : Hid (∀ a n c W9, QS (fun b => w.heap.size ≤ b) W9 a n c (D.rs ++ [R2]) → Below w.heap.size w W9 → X (.returned (.tuple #[.agg (dirC D.priv la ln lc a n c).toArray, .int .i64 0])) W9) := fun a n c W9 h1 h2 => hX0.out a n c W9 (by rw [hnx.out]; exact h1) h2
    clear hX0 hsg hsr hss

    clear hid hBt hBz hB2 hZ2 hB8 e2 hg0 hg1 hP4 hb3 hB3 hrg
    go_wp2_with (first
     | (refine wpList_store_mid (by rfl) 23 (.tmp 44) (.tmp 43) (by rfl) g 33 (bv P0).toArray (by rfl) (by rfl) hP4'.out.there hPi.out (by simpa using hP4'.out.one) ?_
        generalize hWq : World.setCells _ _ _ _ = Wa
        obtain rfl : W4 = Wa := by rw [← hWq]; exact hP4'.out.eq
        clear hWq))
    have hM : TgW w tb rr zz g W4 := ⟨hBt4, hBz4, ⟨R1, hok1.out, hBg⟩, hb4.out⟩
    clear hBt4 hBz4 e4 hP4'
    refine wp_region_held_drew (S := fun wz => TgW w tb rr zz g wz) (by kernel_rfl) (hM.drew) (fun hHeld => ?_)
    have hBd : Blk W4.drew g 27 (rC R1) := hBg
    clear hBg
    generalize W4.drew = V0 at *
    refine wpAnyH_take (i := 0) (oi := ⟨some 46, .fieldAddr 34 (.tmp 1) 0, 0, "ref.go:144", #[], none⟩) (v := ?_) rfl (by kernel_rfl) (by kernel_rfl) (by kernel_rfl) (fun _ _ _ h => h) (Or.inl ⟨by rfl, ?_⟩) hHeld ?_
    rotate_left
    · intro wz hSw
      go_simp
      all_goals (with_reducible rfl)
    try simp only [Act.put, List.setIfInBounds_toArray, List.set_cons_zero, List.set_cons_succ]
    refine wpAnyH_take (i := 1) (oi := ⟨some 47, .load 3 (.tmp 46), 3, "ref.go:144", #[⟨0, .data⟩], none⟩) (v := ?_) rfl (by kernel_rfl) (by kernel_rfl) (by kernel_rfl) (fun _ _ _ h => h) (Or.inl ⟨by rfl, ?_⟩) hHeld ?_
    rotate_left
    · intro wz hSw
      have q0 := hSw.1.at_ hr0.out
      go_simp
      all_goals (with_reducible rfl)
    try simp only [Act.put, List.setIfInBounds_toArray, List.set_cons_zero, List.set_cons_succ]
    refine wpAnyH_ready (rs := [2]) (by kernel_rfl) (by simp) ?_
    refine AllReadyH.cons (o := ⟨some 48, .load 27 (.tmp 5), 27, "ref.go:144", #[], none⟩) rfl (fun K hK => ?_) AllReadyH.nil
    rw [if_pos (by rfl)]
    refine wp_load_mid 27 _ (by rfl) g 0 (by rfl) (rC R1) _ hBd.range Tryz.underlying27 rfl zR1.out ?_
    refine hK.out _ _ hHeld (fun _ => ?_)
    clear hK K
    try simp only [Act.put, List.setIfInBounds_toArray, List.set_cons_zero, List.set_cons_succ]
    refine wpAnyH_ready (rs := [3]) (by kernel_rfl) (by simp) ?_
    refine AllReadyH.cons (o := ⟨some 49, .call { callee := .value (.func 45), args := #[.tmp 48], argTypes := #[27] }, 74, "ref.go:144", #[⟨2, .data⟩], none⟩) rfl (fun K hK => ?_) AllReadyH.nil
    rw [if_pos (by rfl)]
    show Oper.wp _ _ _ _ K _
    go_simp
    go_at_call 45
    refine (r35msg_any R1 hok1.out V0).mono ?_
    rintro e V1 ⟨v1, rfl, ho1, hst⟩
    have hBg1 := hBd.below hst hBd.lt
    obtain ⟨a2, c2, rfl, hS3'⟩ := BS.own ho1.1 ho1.2
    have hS3 := Lib.hid hS3'
    refine hK.out _ _ (hHeld.next hst) (fun hHeld2 => ?_)
    clear hHeld hst hBd ho1 hS3'
    have hHeld := hHeld2
    clear hHeld2
    rw [hml.out] at hS3 ⊢
    clear hK K
    try simp only [Act.put, List.setIfInBounds_toArray, List.set_cons_zero, List.set_cons_succ]
    refine wpAnyH_ready (rs := [4]) (by kernel_rfl) (by simp) ?_
    refine AllReadyH.cons (o := ⟨some 50, .call { callee := .value (.func 64), args := #[.tmp 47, .tmp 49], argTypes := #[3, 74] }, 96, "ref.go:144", #[⟨1, .data⟩, ⟨3, .data⟩, ⟨3, .chain⟩], none⟩) rfl (fun K hK => ?_) AllReadyH.nil
    rw [if_pos (by rfl)]
    show Oper.wp _ _ _ _ K _
    go_simp
    go_at_call 64
    refine (hsn.out a2 c2 V1 hS3.out).mono ?_
    rintro e V4 ⟨rfl, hst2⟩
    have hBg4 := hBg1.below hst2 hBg1.lt
    refine hK.out _ _ (hHeld.next hst2) (fun hHeld2 => ?_)
    clear hHeld hst2 hBg1 hS3
    have hHeld := hHeld2
    clear hHeld2
    clear hK K
    try simp only [Act.put, List.setIfInBounds_toArray, List.set_cons_zero, List.set_cons_succ]
    refine wpAnyH_take (i := 5) (oi := ⟨some 45, .move (.tmp 50), 96, "ref.go:144", #[⟨4, .data⟩], none⟩) (v := ?_) rfl (by kernel_rfl) (by kernel_rfl) (by kernel_rfl) (fun _ _ _ h => h) (Or.inl ⟨by rfl, ?_⟩) hHeld ?_
    rotate_left
    · intro wz hSw
      go_simp
      all_goals (with_reducible rfl)
    try simp only [Act.put, List.setIfInBounds_toArray, List.set_cons_zero, List.set_cons_succ]
    refine wpAnyH_take (i := 6) (oi := ⟨some 51, .extract (.tmp 45) 0, 25, "ref.go:144", #[⟨5, .data⟩], none⟩) (v := ?_) rfl (by kernel_rfl) (by kernel_rfl) (by kernel_rfl) (fun _ _ _ h => h) (Or.inl ⟨by rfl, ?_⟩) hHeld ?_
    rotate_left
    · intro wz hSw
      go_simp
      all_goals (with_reducible rfl)
    try simp only [Act.put, List.setIfInBounds_toArray, List.set_cons_zero, List.set_cons_succ]
    refine wpAnyH_take (i := 7) (oi := ⟨some 52, .extract (.tmp 45) 1, 38, "ref.go:144", #[⟨5, .data⟩, ⟨9, .gcOnly .lateStores⟩], none⟩) (v := ?_) rfl (by kernel_rfl) (by kernel_rfl) (by kernel_rfl) (fun _ _ _ h => h) (Or.inl ⟨by rfl, ?_⟩) hHeld ?_
    rotate_left
    · intro wz hSw
      go_simp
      all_goals (with_reducible rfl)
    try simp only [Act.put, List.setIfInBounds_toArray, List.set_cons_zero, List.set_cons_succ]
    refine wpAnyH_take (i := 8) (oi := ⟨some 53, .fieldAddr 27 (.tmp 5) 3, 0, "ref.go:144", #[⟨0, .phase⟩, ⟨1, .phase⟩, ⟨2, .phase⟩, ⟨3, .phase⟩, ⟨4, .phase⟩, ⟨5, .phase⟩, ⟨6, .phase⟩, ⟨7, .textOnly .lateStores⟩], none⟩) (v := ?_) rfl (by kernel_rfl) (by kernel_rfl) (by kernel_rfl) (fun _ _ _ h => h) (Or.inl ⟨by rfl, ?_⟩) hHeld ?_
    rotate_left
    · intro wz hSw
      go_simp
      all_goals (with_reducible rfl)
    try simp only [Act.put, List.setIfInBounds_toArray, List.set_cons_zero, List.set_cons_succ]
    obtain ⟨V9, hP⟩ := put_sig hok1.out hBg4 sr ss
    have hNew : TgW w tb rr zz g V9 := ⟨hHeld.1.grown hP.grown (by intro e; injection e; omega), hHeld.2.1.grown hP.grown (by intro e; injection e; omega), ⟨_, hok2.out, hP.blk⟩, hHeld.2.2.2.grown hP.grown hHeld.2.2.2.size (fun k e => by cases e; omega)⟩
    refine wpAnyH_ready (rs := [9]) (by kernel_rfl) (by simp) ?_
    refine AllReadyH.cons (o := ⟨none, .store 25 (.tmp 53) (.tmp 51), 0, "ref.go:144", #[⟨8, .data⟩, ⟨6, .data⟩, ⟨4, .chain⟩, ⟨0, .phase⟩, ⟨1, .phase⟩, ⟨2, .phase⟩, ⟨3, .phase⟩, ⟨4, .phase⟩, ⟨5, .phase⟩, ⟨6, .phase⟩, ⟨7, .textOnly .lateStores⟩], none⟩) rfl (fun K hK => ?_) AllReadyH.nil
    rw [if_pos (by rfl)]
    refine wp_store_mid 25 _ _ rfl g 65 #[.int .i64 sr, .int .i64 ss] (by rfl) (by rfl) hP.there sizeSg3 (by simpa using hP.one) ?_
    generalize hWq : World.setCells _ _ _ _ = Wa
    obtain rfl : V9 = Wa := by rw [← hWq]; exact hP.eq
    clear hWq
    refine hK.out _ _ hNew (fun hHeld2 => ?_)
    clear hHeld hBg4
    have hHeld := hHeld2
    clear hHeld2
    clear hK K
    try simp only [Act.put]
    refine wpAnyH_done (by kernel_rfl) ?_ _
    have hBg : Blk V9 g 27 (rC R2) := by rw [← hR2.out]; exact hP.blk
    have hBt := hHeld.1
    have hBz := hHeld.2.1
    have hbv := hHeld.2.2.2
    clear hHeld hNew hP
    have e0 := hBt.at_ hr0.out
    have e1 := hBt.at_ hr1.out
    have e2 := hBt.at_ hr2.out
    go_wp2_with fail
    have hM2 : ThW w tb D.priv la ln lc zz g (rC R2) V9 := ⟨⟨ra, rn, rc, by rw [hrr.out]; exact hBt⟩, hBz, hBg, hbv⟩
    refine wp_region_held_drew (S := fun wz => ThW w tb D.priv la ln lc zz g (rC R2) wz) (by kernel_rfl) (hM2.drew) (fun hHeld => ?_)
    have hBt0 : Blk V9.drew tb 34 rr := hBt
    have hM3 := hM2.drew
    clear hBt hBg hBz hbv e0 e1 e2 hM2
    generalize V9.drew = V0 at *
    obtain ⟨B0, hB0⟩ : ∃ B0, Hid (V0.heap.size = B0) := ⟨_, rfl⟩
    have hgl := hM3.2.2.1.lt
    have hzl := hM3.2.1.lt
    have hwl := hM3.2.2.2.size
    have hbl0 := hBt0.lt
    obtain ⟨VZ, hVZ⟩ : ∃ V, V = V0 := ⟨_, rfl⟩
    have bB : Below V0.heap.size V0 VZ := by rw [hVZ]; exact Below.refl _ _
    rw [← hVZ] at hHeld hM3 ⊢
    rw [hB0.out] at hgl hzl hwl bB hbl0
    clear hVZ
    refine wpAnyH_take (i := 1) (oi := ⟨some 55, .fieldAddr 34 (.tmp 1) 2, 0, "ref.go:145", #[], none⟩) (v := ?_) rfl (by kernel_rfl) (by kernel_rfl) (by kernel_rfl) (fun _ _ _ h => h) (Or.inl ⟨by rfl, ?_⟩) hHeld ?_
    rotate_left
    · intro wz hSw
      go_simp
      all_goals (with_reducible rfl)
    try simp only [Act.put, List.setIfInBounds_toArray, List.set_cons_zero, List.set_cons_succ]
    refine wpAnyH_take (i := 4) (oi := ⟨some 58, .load 27 (.tmp 5), 27, "ref.go:145", #[], none⟩) rfl (by kernel_rfl) (by kernel_rfl) (by kernel_rfl) (fun _ _ _ h => h) (yieldsIf_load_mid (by rfl) _ _ rfl g 0 rfl (rC R2) _ (fun wz h => h.2.2.1.range) Tryz.underlying27 rfl (zR2.out)) hHeld ?_
    try simp only [Act.put, List.setIfInBounds_toArray, List.set_cons_zero, List.set_cons_succ]
    refine share (G := ∀ (e5 : Nat) (g5 : Nat) (v1 : Value) (WZ : World), (ThW w tb D.priv la ln lc zz g (rC R2) WZ) → (Below B0 V0 WZ) → (World.ownsRow WZ B0 27 67 v1 rn rows.flatten) → (Blk WZ g5 27 (rC R2)) → (B0 ≤ g5) → (?GS0235B : Nat → Nat → Value → World → Prop) e5 g5 v1 WZ) ?hS0235B ?kS0235B
    case' hS0235B => intro KS0235B
    case' hS0235B =>
     refine share (G := ∀ (e5 : Nat) (v1 : Value) (WZ : World), (ThW w tb D.priv la ln lc zz g (rC R2) WZ) → (Below B0 V0 WZ) → (World.ownsRow WZ B0 27 67 v1 rn rows.flatten) → (?GS023B : Nat → Value → World → Prop) e5 v1 WZ) ?hS023B ?kS023B
    case' hS023B => intro KS023B
    case' hS023B =>
     refine share (G := ∀ (e5 : Nat) (g5 : Nat) (WZ : World), (ThW w tb D.priv la ln lc zz g (rC R2) WZ) → (Below B0 V0 WZ) → (World.ownsRow WZ B0 27 67 (.slice (some ⟨e5, 0, none⟩) 0 0) 0 []) → (Blk WZ g5 27 (rC R2)) → (B0 ≤ g5) → (e5 ≠ g5) → (?GS025B : Nat → Nat → World → Prop) e5 g5 WZ) ?hS025B ?kS025B
    case' hS025B => intro KS025B
    case' hS025B =>
     refine share (G := ∀ (e5 : Nat) (WZ : World), (ThW w tb D.priv la ln lc zz g (rC R2) WZ) → (Below B0 V0 WZ) → (World.ownsRow WZ B0 27 67 (.slice (some ⟨e5, 0, none⟩) 0 0) 0 []) → (?GS02B : Nat → World → Prop) e5 WZ) ?hS02B ?kS02B
    case' hS02B => intro KS02B
    case' hS02B =>
     refine share (G := ∀ (e5 : Nat) (g5 : Nat) (WZ : World), (ThW w tb D.priv la ln lc zz g (rC R2) WZ) → (Below B0 V0 WZ) → (World.ownsRow WZ B0 27 67 (.slice (some ⟨e5, 0, none⟩) 0 0) 0 []) → (Blk WZ g5 27 (rC R2)) → (B0 ≤ g5) → (e5 ≠ g5) → (?GS05B : Nat → Nat → World → Prop) e5 g5 WZ) ?hS05B ?kS05B
    case' hS05B => intro KS05B
    case' hS05B =>
     refine share (G := ∀ (g5 : Nat) (WZ : World), (ThW w tb D.priv la ln lc zz g (rC R2) WZ) → (Below B0 V0 WZ) → (Blk WZ g5 27 (rC R2)) → (B0 ≤ g5) → (?GS25B : Nat → World → Prop) g5 WZ) ?hS25B ?kS25B
    case' hS25B => intro KS25B
    case' hS25B =>
     refine share (G := ∀ (e5 : Nat) (WZ : World), (ThW w tb D.priv la ln lc zz g (rC R2) WZ) → (Below B0 V0 WZ) → (World.ownsRow WZ B0 27 67 (.slice (some ⟨e5, 0, none⟩) 0 0) 0 []) → (?GS0B : Nat → World → Prop) e5 WZ) ?hS0B ?kS0B
    case' hS0B => intro KS0B
    case' hS0B =>
     refine share (G := ∀ (WZ : World), (ThW w tb D.priv la ln lc zz g (rC R2) WZ) → (Below B0 V0 WZ) → (?GS2B : World → Prop) WZ) ?hS2B ?kS2B
    case' hS2B => intro KS2B
    case' hS2B =>
     refine share (G := ∀ (g5 : Nat) (WZ : World), (ThW w tb D.priv la ln lc zz g (rC R2) WZ) → (Below B0 V0 WZ) → (Blk WZ g5 27 (rC R2)) → (B0 ≤ g5) → (?GS5B : Nat → World → Prop) g5 WZ) ?hS5B ?kS5B
    case' hS5B => intro KS5B
    case hS5B =>
     have hHeld := hM3
     refine wpAnyH_ready (rs := [0, 2, 5]) (by kernel_rfl) (by simp) ?_
     refine AllReadyH.cons (o := ⟨some 54, .buildSlice 32 0 #[], 32, "ref.go:145", #[], none⟩) rfl (fun K hK => ?_) (AllReadyH.cons (o := ⟨some 56, .load 32 (.tmp 55), 32, "ref.go:145", #[⟨1, .data⟩], none⟩) rfl (fun K hK => ?_) (AllReadyH.cons (o := ⟨some 59, .buildSlice 32 1 #[(0, .tmp 58)], 32, "ref.go:145", #[⟨4, .data⟩], none⟩) rfl (fun K hK => ?_) AllReadyH.nil))
     case refine_1 =>
      rw [if_pos (by rfl)]
      refine wp_buildSlice_run 32 0 #[] rfl #[] (by simp) (empty_roots VZ) ?_
      refine hK.out _ _ (hHeld.next ((Below.refl _ VZ).alloc (Nat.le_refl _) _)) (fun hHeld2 => ?_)
      clear hK K
      try simp only [Act.put, List.setIfInBounds_toArray, List.set_cons_zero, List.set_cons_succ]
      have bB2 := bB.alloc (hB0.out ▸ bB.size) (.cells #[] 27)
      have hE2 := Sl.owns_mono (own_newR VZ) (hB0.out ▸ bB.size)
      generalize VZ.heap.size = e5 at *
      generalize World.alloc VZ _ = W2 at *
      exact KS0B e5 W2 (hHeld2) (bB2) (hE2)
     case refine_2 =>
      rw [if_pos (by rfl)]
      have q0 := (hBt0.below bB (by omega)).at_ hr2.out
      show Oper.wp _ _ _ _ K _
      go_simp
      refine hK.out _ _ hHeld (fun hHeld2 => ?_)
      clear hK K q0
      try simp only [Act.put, List.setIfInBounds_toArray, List.set_cons_zero, List.set_cons_succ]
      exact KS2B  VZ (hHeld2) (bB)
     case refine_3 =>
      rw [if_pos (by rfl)]
      refine wp_buildSlice_run _ _ _ rfl #[(0, .agg (rC R2).toArray)] (by simp only [List.map_toArray, List.map_cons, List.map_nil]; rfl) (root_slice1 hok3.out _) ?_
      refine hK.out _ _ (hHeld.next ((Below.refl _ VZ).alloc (Nat.le_refl _) _)) (fun hHeld2 => ?_)
      clear hK K
      try simp only [Act.put, List.setIfInBounds_toArray, List.set_cons_zero, List.set_cons_succ]
      have bB2 := bB.alloc (hB0.out ▸ bB.size) (.cells (rC R2).toArray 27)
      have hG2 := Blk.new VZ 27 (rC R2)
      have hGl2 := (hB0.out ▸ bB.size)
      generalize VZ.heap.size = g5 at *
      generalize World.alloc VZ _ = W2 at *
      exact KS5B g5 W2 (hHeld2) (bB2) (hG2) (hGl2)
    case kS0B =>
     intro e5 WZ hHeld bB hE
     refine wpAnyH_ready (rs := [2, 5]) (by kernel_rfl) (by simp) ?_
     refine AllReadyH.cons (o := ⟨some 56, .load 32 (.tmp 55), 32, "ref.go:145", #[⟨1, .data⟩], none⟩) rfl (fun K hK => ?_) (AllReadyH.cons (o := ⟨some 59, .buildSlice 32 1 #[(0, .tmp 58)], 32, "ref.go:145", #[⟨4, .data⟩], none⟩) rfl (fun K hK => ?_) AllReadyH.nil)
     case refine_1 =>
      rw [if_pos (by rfl)]
      have q0 := (hBt0.below bB (by omega)).at_ hr2.out
      show Oper.wp _ _ _ _ K _
      go_simp
      refine hK.out _ _ hHeld (fun hHeld2 => ?_)
      clear hK K q0
      try simp only [Act.put, List.setIfInBounds_toArray, List.set_cons_zero, List.set_cons_succ]
      exact KS02B e5 WZ (hHeld2) (bB) (hE)
     case refine_2 =>
      rw [if_pos (by rfl)]
      refine wp_buildSlice_run _ _ _ rfl #[(0, .agg (rC R2).toArray)] (by simp only [List.map_toArray, List.map_cons, List.map_nil]; rfl) (root_slice1 hok3.out _) ?_
      refine hK.out _ _ (hHeld.next ((Below.refl _ WZ).alloc (Nat.le_refl _) _)) (fun hHeld2 => ?_)
      clear hK K
      try simp only [Act.put, List.setIfInBounds_toArray, List.set_cons_zero, List.set_cons_succ]
      have bB2 := bB.alloc (hB0.out ▸ bB.size) (.cells (rC R2).toArray 27)
      have hG2 := Blk.new WZ 27 (rC R2)
      have hGl2 := (hB0.out ▸ bB.size)
      have hE2 := World.ownsRow.alloc hE (.cells (rC R2).toArray 27)
      have hN2 : e5 ≠ WZ.heap.size := by have := (World.ownsRow.lt hE e5 rfl).2; omega
      generalize WZ.heap.size = g5 at *
      generalize World.alloc WZ _ = W2 at *
      exact KS05B e5 g5 W2 (hHeld2) (bB2) (hE2) (hG2) (hGl2) (hN2)
    case kS2B =>
     intro  WZ hHeld bB
     refine wpAnyH_ready (rs := [0, 5]) (by kernel_rfl) (by simp) ?_
     refine AllReadyH.cons (o := ⟨some 54, .buildSlice 32 0 #[], 32, "ref.go:145", #[], none⟩) rfl (fun K hK => ?_) (AllReadyH.cons (o := ⟨some 59, .buildSlice 32 1 #[(0, .tmp 58)], 32, "ref.go:145", #[⟨4, .data⟩], none⟩) rfl (fun K hK => ?_) AllReadyH.nil)
     case refine_1 =>
      rw [if_pos (by rfl)]
      refine wp_buildSlice_run 32 0 #[] rfl #[] (by simp) (empty_roots WZ) ?_
      refine hK.out _ _ (hHeld.next ((Below.refl _ WZ).alloc (Nat.le_refl _) _)) (fun hHeld2 => ?_)
      clear hK K
      try simp only [Act.put, List.setIfInBounds_toArray, List.set_cons_zero, List.set_cons_succ]
      have bB2 := bB.alloc (hB0.out ▸ bB.size) (.cells #[] 27)
      have hE2 := Sl.owns_mono (own_newR WZ) (hB0.out ▸ bB.size)
      generalize WZ.heap.size = e5 at *
      generalize World.alloc WZ _ = W2 at *
      exact KS02B e5 W2 (hHeld2) (bB2) (hE2)
     case refine_2 =>
      rw [if_pos (by rfl)]
      refine wp_buildSlice_run _ _ _ rfl #[(0, .agg (rC R2).toArray)] (by simp only [List.map_toArray, List.map_cons, List.map_nil]; rfl) (root_slice1 hok3.out _) ?_
      refine hK.out _ _ (hHeld.next ((Below.refl _ WZ).alloc (Nat.le_refl _) _)) (fun hHeld2 => ?_)
      clear hK K
      try simp only [Act.put, List.setIfInBounds_toArray, List.set_cons_zero, List.set_cons_succ]
      have bB2 := bB.alloc (hB0.out ▸ bB.size) (.cells (rC R2).toArray 27)
      have hG2 := Blk.new WZ 27 (rC R2)
      have hGl2 := (hB0.out ▸ bB.size)
      generalize WZ.heap.size = g5 at *
      generalize World.alloc WZ _ = W2 at *
      exact KS25B g5 W2 (hHeld2) (bB2) (hG2) (hGl2)
    case kS5B =>
     intro g5 WZ hHeld bB hG hGl
     refine wpAnyH_ready (rs := [0, 2]) (by kernel_rfl) (by simp) ?_
     refine AllReadyH.cons (o := ⟨some 54, .buildSlice 32 0 #[], 32, "ref.go:145", #[], none⟩) rfl (fun K hK => ?_) (AllReadyH.cons (o := ⟨some 56, .load 32 (.tmp 55), 32, "ref.go:145", #[⟨1, .data⟩], none⟩) rfl (fun K hK => ?_) AllReadyH.nil)
     case refine_1 =>
      rw [if_pos (by rfl)]
      refine wp_buildSlice_run 32 0 #[] rfl #[] (by simp) (empty_roots WZ) ?_
      refine hK.out _ _ (hHeld.next ((Below.refl _ WZ).alloc (Nat.le_refl _) _)) (fun hHeld2 => ?_)
      clear hK K
      try simp only [Act.put, List.setIfInBounds_toArray, List.set_cons_zero, List.set_cons_succ]
      have bB2 := bB.alloc (hB0.out ▸ bB.size) (.cells #[] 27)
      have hE2 := Sl.owns_mono (own_newR WZ) (hB0.out ▸ bB.size)
      have hG2 := hG.alloc (.cells #[] 27)
      have hN2 : WZ.heap.size ≠ g5 := by have := hG.lt; omega
      generalize WZ.heap.size = e5 at *
      generalize World.alloc WZ _ = W2 at *
      exact KS05B e5 g5 W2 (hHeld2) (bB2) (hE2) (hG2) (hGl) (hN2)
     case refine_2 =>
      rw [if_pos (by rfl)]
      have q0 := (hBt0.below bB (by omega)).at_ hr2.out
      show Oper.wp _ _ _ _ K _
      go_simp
      refine hK.out _ _ hHeld (fun hHeld2 => ?_)
      clear hK K q0
      try simp only [Act.put, List.setIfInBounds_toArray, List.set_cons_zero, List.set_cons_succ]
      exact KS25B g5 WZ (hHeld2) (bB) (hG) (hGl)
    case kS02B =>
     intro e5 WZ hHeld bB hE
     refine wpAnyH_ready (rs := [3, 5]) (by kernel_rfl) (by simp) ?_
     refine AllReadyH.cons (o := ⟨some 57, .call { callee := .builtin .append, args := #[.tmp 54, .tmp 56], argTypes := #[32, 32] }, 32, "ref.go:145", #[⟨0, .data⟩, ⟨2, .data⟩], none⟩) rfl (fun K hK => ?_) (AllReadyH.cons (o := ⟨some 59, .buildSlice 32 1 #[(0, .tmp 58)], 32, "ref.go:145", #[⟨4, .data⟩], none⟩) rfl (fun K hK => ?_) AllReadyH.nil)
     case refine_1 =>
      rw [if_pos (by rfl)]
      obtain ⟨v1, W2, hr1, hO2, hgr⟩ := append_rs hE (reads_holds hRd.out (hHeld.2.2.2)) (fun e => (hnil.out e).1) hRd.out.len hrone.out (by omega) (hB0.out ▸ bB.size)
      have hgr2 := (Below.refl B0 WZ).grown hgr (hB0.out ▸ bB.size) (fun k e => (World.ownsRow.lt hE k e).1)
      have hHeld2 : ThW w tb D.priv la ln lc zz g (rC R2) W2 := hHeld.nextB hgr2 hzl hgl hwl
      have bB2 := bB.trans hgr2
      refine wp_append_run rfl _ _ (by rfl) (by rfl) (hr1 _) ?_
      refine hK.out _ _ hHeld2 (fun _ => ?_)
      clear hK K
      try simp only [Act.put, List.setIfInBounds_toArray, List.set_cons_zero, List.set_cons_succ]
      rw [List.nil_append, Nat.zero_add] at hO2
      exact KS023B e5 v1 W2 (hHeld2) (bB2) (hO2)
     case refine_2 =>
      rw [if_pos (by rfl)]
      refine wp_buildSlice_run _ _ _ rfl #[(0, .agg (rC R2).toArray)] (by simp only [List.map_toArray, List.map_cons, List.map_nil]; rfl) (root_slice1 hok3.out _) ?_
      refine hK.out _ _ (hHeld.next ((Below.refl _ WZ).alloc (Nat.le_refl _) _)) (fun hHeld2 => ?_)
      clear hK K
      try simp only [Act.put, List.setIfInBounds_toArray, List.set_cons_zero, List.set_cons_succ]
      have bB2 := bB.alloc (hB0.out ▸ bB.size) (.cells (rC R2).toArray 27)
      have hG2 := Blk.new WZ 27 (rC R2)
      have hGl2 := (hB0.out ▸ bB.size)
      have hE2 := World.ownsRow.alloc hE (.cells (rC R2).toArray 27)
      have hN2 : e5 ≠ WZ.heap.size := by have := (World.ownsRow.lt hE e5 rfl).2; omega
      generalize WZ.heap.size = g5 at *
      generalize World.alloc WZ _ = W2 at *
      exact KS025B e5 g5 W2 (hHeld2) (bB2) (hE2) (hG2) (hGl2) (hN2)
    case kS05B =>
     intro e5 g5 WZ hHeld bB hE hG hGl hN
     refine wpAnyH_ready (rs := [2]) (by kernel_rfl) (by simp) ?_
     refine AllReadyH.cons (o := ⟨some 56, .load 32 (.tmp 55), 32, "ref.go:145", #[⟨1, .data⟩], none⟩) rfl (fun K hK => ?_) AllReadyH.nil
     rw [if_pos (by rfl)]
     have q0 := (hBt0.below bB (by omega)).at_ hr2.out
     show Oper.wp _ _ _ _ K _
     go_simp
     refine hK.out _ _ hHeld (fun hHeld2 => ?_)
     clear hK K q0
     try simp only [Act.put, List.setIfInBounds_toArray, List.set_cons_zero, List.set_cons_succ]
     exact KS025B e5 g5 WZ (hHeld2) (bB) (hE) (hG) (hGl) (hN)
    case kS25B =>
     intro g5 WZ hHeld bB hG hGl
     refine wpAnyH_ready (rs := [0]) (by kernel_rfl) (by simp) ?_
     refine AllReadyH.cons (o := ⟨some 54, .buildSlice 32 0 #[], 32, "ref.go:145", #[], none⟩) rfl (fun K hK => ?_) AllReadyH.nil
     rw [if_pos (by rfl)]
     refine wp_buildSlice_run 32 0 #[] rfl #[] (by simp) (empty_roots WZ) ?_
     refine hK.out _ _ (hHeld.next ((Below.refl _ WZ).alloc (Nat.le_refl _) _)) (fun hHeld2 => ?_)
     clear hK K
     try simp only [Act.put, List.setIfInBounds_toArray, List.set_cons_zero, List.set_cons_succ]
     have bB2 := bB.alloc (hB0.out ▸ bB.size) (.cells #[] 27)
     have hE2 := Sl.owns_mono (own_newR WZ) (hB0.out ▸ bB.size)
     have hG2 := hG.alloc (.cells #[] 27)
     have hN2 : WZ.heap.size ≠ g5 := by have := hG.lt; omega
     generalize WZ.heap.size = e5 at *
     generalize World.alloc WZ _ = W2 at *
     exact KS025B e5 g5 W2 (hHeld2) (bB2) (hE2) (hG2) (hGl) (hN2)
    case kS023B =>
     intro e5 v1 WZ hHeld bB hO
     refine wpAnyH_ready (rs := [5]) (by kernel_rfl) (by simp) ?_
     refine AllReadyH.cons (o := ⟨some 59, .buildSlice 32 1 #[(0, .tmp 58)], 32, "ref.go:145", #[⟨4, .data⟩], none⟩) rfl (fun K hK => ?_) AllReadyH.nil
     rw [if_pos (by rfl)]
     refine wp_buildSlice_run _ _ _ rfl #[(0, .agg (rC R2).toArray)] (by simp only [List.map_toArray, List.map_cons, List.map_nil]; rfl) (root_slice1 hok3.out _) ?_
     refine hK.out _ _ (hHeld.next ((Below.refl _ WZ).alloc (Nat.le_refl _) _)) (fun hHeld2 => ?_)
     clear hK K
     try simp only [Act.put, List.setIfInBounds_toArray, List.set_cons_zero, List.set_cons_succ]
     have bB2 := bB.alloc (hB0.out ▸ bB.size) (.cells (rC R2).toArray 27)
     have hG2 := Blk.new WZ 27 (rC R2)
     have hGl2 := (hB0.out ▸ bB.size)
     have hO2 := World.ownsRow.alloc hO (.cells (rC R2).toArray 27)
     generalize WZ.heap.size = g5 at *
     generalize World.alloc WZ _ = W2 at *
     exact KS0235B e5 g5 v1 W2 (hHeld2) (bB2) (hO2) (hG2) (hGl2)
    case kS025B =>
     intro e5 g5 WZ hHeld bB hE hG hGl hN
     refine wpAnyH_ready (rs := [3]) (by kernel_rfl) (by simp) ?_
     refine AllReadyH.cons (o := ⟨some 57, .call { callee := .builtin .append, args := #[.tmp 54, .tmp 56], argTypes := #[32, 32] }, 32, "ref.go:145", #[⟨0, .data⟩, ⟨2, .data⟩], none⟩) rfl (fun K hK => ?_) AllReadyH.nil
     rw [if_pos (by rfl)]
     obtain ⟨v1, W2, hr1, hO2, hgr⟩ := append_rs hE (reads_holds hRd.out (hHeld.2.2.2)) (fun e => (hnil.out e).1) hRd.out.len hrone.out (by omega) (hB0.out ▸ bB.size)
     have hgr2 := (Below.refl B0 WZ).grown hgr (hB0.out ▸ bB.size) (fun k e => (World.ownsRow.lt hE k e).1)
     have hHeld2 : ThW w tb D.priv la ln lc zz g (rC R2) W2 := hHeld.nextB hgr2 hzl hgl hwl
     have bB2 := bB.trans hgr2
     have hG2 := hG.grown hgr (fun e => by injection e with e; exact hN e.symm)
     refine wp_append_run rfl _ _ (by rfl) (by rfl) (hr1 _) ?_
     refine hK.out _ _ hHeld2 (fun _ => ?_)
     clear hK K
     try simp only [Act.put, List.setIfInBounds_toArray, List.set_cons_zero, List.set_cons_succ]
     rw [List.nil_append, Nat.zero_add] at hO2
     exact KS0235B e5 g5 v1 W2 (hHeld2) (bB2) (hO2) (hG2) (hGl)
    case kS0235B =>
     intro e5 g5 v1 WZ hHeld bB hO hG hGl
     refine wpAnyH_ready (rs := [6]) (by kernel_rfl) (by simp) ?_
     refine AllReadyH.cons (o := ⟨some 60, .call { callee := .builtin .append, args := #[.tmp 57, .tmp 59], argTypes := #[32, 32] }, 32, "ref.go:145", #[⟨3, .data⟩, ⟨5, .data⟩, ⟨3, .chain⟩], none⟩) rfl (fun K hK => ?_) AllReadyH.nil
     rw [if_pos (by rfl)]
     obtain ⟨v2, w', hr6, hown, hgr6⟩ := append_rs (a := some ⟨g5, 0, none⟩) (n := 1) (c := 1) (ys := rC R2) hO (fun b e j u hu => by cases e; rw [Addr.add_lit, Nat.zero_add]; exact hG.at_ hu) (fun e => by cases e) (by rw [rC_length hok3.out]) (rC_one R2) (by omega) (hB0.out ▸ bB.size)
     have hbg := (Below.refl B0 WZ).grown hgr6 (hB0.out ▸ bB.size) (fun k e => (World.ownsRow.lt hO k e).1)
     have hBt2 := (hBt0.below bB (by omega)).below hbg (by omega)
     refine wp_append_run rfl _ _ (by rfl) (by rfl) (hr6 _) ?_
     refine hK.out _ _ (hHeld.nextB hbg hzl hgl hwl) (fun hHeld2 => ?_)
     clear hHeld hK K
     have hHeld := hHeld2
     clear hHeld2
     try simp only [Act.put, List.setIfInBounds_toArray, List.set_cons_zero, List.set_cons_succ]
     obtain ⟨a2, c2, hv2, hQ⟩ := qs_snoc (K := fun b => B0 ≤ b) hRo.out hok3.out hrn.out hown (fun b h => h)
     subst hv2
     clear hown hgr6 hbg hr6
     refine wpAnyH_take (i := 7) (oi := ⟨some 61, .fieldAddr 34 (.tmp 1) 2, 0, "ref.go:145", #[⟨0, .phase⟩, ⟨1, .phase⟩, ⟨2, .phase⟩, ⟨3, .phase⟩, ⟨4, .phase⟩, ⟨5, .phase⟩, ⟨6, .phase⟩], none⟩) (v := ?_) rfl (by kernel_rfl) (by kernel_rfl) (by kernel_rfl) (fun _ _ _ h => h) (Or.inl ⟨by rfl, ?_⟩) hHeld ?_
     rotate_left
     · intro wz hSw
       go_simp
       all_goals (with_reducible rfl)
     try simp only [Act.put, List.setIfInBounds_toArray, List.set_cons_zero, List.set_cons_succ]
     refine wpAnyH_ready (rs := [8]) (by kernel_rfl) (by simp) ?_
     refine AllReadyH.cons (o := ⟨none, .store 32 (.tmp 61) (.tmp 60), 0, "ref.go:145", #[⟨7, .data⟩, ⟨6, .data⟩, ⟨6, .chain⟩, ⟨0, .phase⟩, ⟨1, .phase⟩, ⟨2, .phase⟩, ⟨3, .phase⟩, ⟨4, .phase⟩, ⟨5, .phase⟩, ⟨6, .phase⟩], none⟩) rfl (fun K hK => ?_) AllReadyH.nil
     rw [if_pos (by rfl)]
     have q2 := hBt2.at_ hr2.out
     have f2 := hBt2.frozen 2
     show Oper.wp _ _ _ _ K _
     go_simp
     have hset := hBt2.set 2 (.slice a2 (rn + 1) c2)
     rw [hrs.out] at hset
     have hgs2 : w'.grownBy (w'.setCell ⟨tb, 2, none⟩ (.slice a2 (rn + 1) c2)) (some tb) := grown_set (World.grownBy.refl w' _) (.inl rfl) _
     have hNew : ThW w tb D.priv la ln lc zz g (rC R2) (w'.setCell ⟨tb, 2, none⟩ (.slice a2 (rn + 1) c2)) := ⟨⟨a2, rn + 1, c2, hset⟩, hHeld.2.1.grown hgs2 (by intro e; injection e; omega), hHeld.2.2.1.grown hgs2 (by intro e; injection e; omega), hHeld.2.2.2.grown hgs2 hHeld.2.2.2.size (fun k e => by cases e; omega)⟩
     have hQ2 : QS (fun b => B0 ≤ b) (w'.setCell ⟨tb, 2, none⟩ (.slice a2 (rn + 1) c2)) a2 (rn + 1) c2 (D.rs ++ [R2]) := hQ.keep (Keeps.grown hgs2 (fun b hb e => by omega))
     refine hK.out _ _ hNew (fun _ => ?_)
     clear hHeld hK K hBt2 hQ q2 f2 hgs2
     try simp only [Act.put, List.setIfInBounds_toArray, List.set_cons_zero, List.set_cons_succ]
     refine wpAnyH_done (by kernel_rfl) ?_ _
     generalize w'.setCell ⟨tb, 2, none⟩ (.slice a2 (rn + 1) c2) = V5 at *
     have hone : ∀ u ∈ dirC D.priv la ln lc a2 (rn + 1) c2, u.oneCell' = true := by intro u hu; simp only [dirC, List.mem_cons, List.not_mem_nil, or_false] at hu; rcases hu with rfl | rfl | rfl <;> rfl
     obtain ⟨W9, hP⟩ := put_row (ty := 34) hNew.2.1 (x := dirC D.priv la ln lc a2 (rn + 1) c2) (by rw [← hzz.out]; rfl) sizeDr hone
     have hfin := Lib.hid (hX.out a2 (rn + 1) c2 W9 (QS.keep (QS.imp hQ2 (fun b _ hb => hb)) (Keeps.grown hP.grown (fun b hb e => by omega)) |>.imp (fun b _ hb => by omega)) (below_grown hNew.2.2.2 hP.grown hNew.2.2.2.size (by omega)))
     have hsr := Lib.hid hset.range
     have hP' := Lib.hid hP
     have hbk := Lib.hid hP.blk
     have hzi : Hid ((Tryz.prog.info? 34).map (·.size) = some (dirC D.priv la ln lc a2 (rn + 1) c2).length) := sizeDr
     obtain ⟨r2, hr2e⟩ : ∃ r2, Hid (dirC D.priv la ln lc a2 (rn + 1) c2 = r2) := ⟨_, rfl⟩
     rw [hr2e.out] at hsr hP' hbk hzi hfin
     clear hQ2 hNew hset hP hone hX
     go_wp2_with (first
      | (refine wpList_load_mid (by rfl) 34 (.tmp 1) (by rfl) tb 0 (by rfl) r2 _ hsr.out Tryz.underlying34 (by rfl) hzi.out ?_)
       | (refine wpList_store_mid (by rfl) 34 (.tmp 2) (.tmp 62) (by rfl) (tb + 1) 0 r2.toArray (by rfl) (by rfl) hP'.out.there hP'.out.info (by simpa using hP'.out.one) ?_
          generalize hWq : World.setCells _ _ _ _ = Wa
          obtain rfl : W9 = Wa := by rw [← hWq]; exact hP'.out.eq
          clear hWq))
     refine ret_cell_tmp (p := 2) (u := 3) rfl hbk.out Tryz.underlying34 rfl hzi.out rfl rfl rfl ?_
     exact hfin.out

theorem r35tick_any (K : Nat → Prop) (D : Dir) (la : Option Addr) (ln lc : Nat) (ra : Option Addr) (rn rc : Nat) (w : World) (HT : Tabs w) (H : DM K w D la ln lc ra rn rc) : Calls Tryz.prog 20 #[.agg (dirC D.priv la ln lc ra rn rc).toArray] w (TickPost (Go.Dr.tickD 4 D) la ln lc w) := by
 unfold Go.Dr.tickD
 cases hk : keyOk D.priv with
 | false => exact (r35tick_key K D la ln lc ra rn rc w HT H hk).mono (fun e w' h => .inr ⟨by simp, h.1, h.2⟩)
 | true =>
  cases hc : Go.Dr.chkL D.ls with
  | false => exact (r35tick_chk K D la ln lc ra rn rc w HT H hk hc).mono (fun e w' h => .inr ⟨by simp, h.1, h.2⟩)
  | true =>
   by_cases hl : D.rs.length < 65536
   · refine (r35tick_ok K D la ln lc ra rn rc w HT H hk hc hl).mono ?_
     rintro e w' ⟨a, n, c, rfl, hQ, hb⟩
     simp only [if_true, if_pos hl]
     exact .inl ⟨rfl, a, n, c, rfl, hQ, hb⟩
   · simp only [if_true, if_neg hl]
     exact (r35tick_lim K D la ln lc ra rn rc w HT H hk hc (by omega)).mono (fun e w' h => .inr ⟨by simp, h.1, h.2⟩)
end Go.Proofs.YthhblcbnnmoojaaGreatDoor
