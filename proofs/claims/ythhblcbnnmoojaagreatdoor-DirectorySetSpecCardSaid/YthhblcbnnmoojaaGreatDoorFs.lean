/- the reference 35: Set -/
import Derived.Test.YthhblcbnnmoojaaGreatDoorFt
import Derived.Test.YthhblcbnnmoojaaGreatDoorRd
namespace Go.Dr
theorem ofZ_vers (l : List Lst) (dev : Int) : (ofZ l dev).vers = oldV l dev := by unfold ofZ oldV; cases ofL l dev <;> rfl
theorem ofZ_bd {l : List Lst} (h : chkL l = true) (dev : Int) : 0 ≤ (ofZ l dev).vers ∧ (ofZ l dev).vers ≤ 1048576 := by
 unfold ofZ
 cases e : ofL l dev with
 | none => exact ⟨by decide, by decide⟩
 | some z =>
  have hz : z ∈ l := List.mem_of_find?_eq_some e
  obtain ⟨i, hi⟩ := List.mem_iff_getElem?.1 hz
  have := fits_vers (chk_lt h i z hi).2
  exact ⟨by show 0 ≤ z.vers; omega, this.2⟩
theorem mem_insL {x y : Lst} : ∀ {l : List Lst}, y ∈ insL x l → y = x ∨ y ∈ l
 | [], h => by rw [insL, List.mem_singleton] at h; exact .inl h
 | z :: r, h => by
  rw [insL] at h
  split at h
  · rcases List.mem_cons.1 h with rfl | h
    · exact .inr (List.mem_cons_self ..)
    · rcases mem_insL h with h | h
      · exact .inl h
      · exact .inr (List.mem_cons_of_mem _ h)
  · split at h
    · rcases List.mem_cons.1 h with h | h
      · exact .inl h
      · exact .inr (List.mem_cons_of_mem _ h)
    · rcases List.mem_cons.1 h with h | h
      · exact .inl h
      · exact .inr h
end Go.Dr
namespace Go.Proofs.YthhblcbnnmoojaaGreatDoor
open Go.RowKit Go.Mem
open Go.Dr (Lst Rt Dir)

theorem empty_lists (W : World) : (Instr.buildSlice 31 0 #[]).run Tryz.prog W = .ok (.slice (some ⟨W.heap.size, 0, none⟩) 0 0) (W.alloc (.cells #[] 36)) := by kernel_rfl
theorem own_newL (W : World) : (W.alloc (.cells #[] 36)).ownsRow W.heap.size 36 5 (.slice (some ⟨W.heap.size, 0, none⟩) 0 0) 0 [] :=
 ⟨rfl, Or.inr ⟨W.heap.size, 0, #[], rfl, Nat.le_refl _, heap_alloc_new W _, Nat.le_refl _, by unfold maxLen; omega, rfl, rfl⟩⟩
theorem append_l1 {w0 W : World} {B : Nat} {v : Value} {l : List Lst} (hown : W.ownsRow B 36 5 v l.length (gR l)) (hB : B ≤ W.heap.size) (hb0 : Below B w0 W) (y : Lst) (hn : l.length ≤ 100000) :
 ∃ v' W', (∀ ty, (Builtin.append_ #[31, 31] ty #[v, .slice (some ⟨W.heap.size, 0, none⟩) 1 1]).run Tryz.prog (W.alloc (.cells (gC y).toArray 36)) = .ok v' W') ∧ W'.ownsRow B 36 5 v' (l ++ [y]).length (gR (l ++ [y])) ∧ Below B w0 W' := by
 obtain ⟨i0, hi, hz0, hz1, hz2⟩ := info_parts infoG
 have hBk := Blk.new W 36 (gC y)
 have hba := hb0.alloc hB (.cells (gC y).toArray 36)
 have ho' := World.ownsRow.alloc hown (.cells (gC y).toArray 36)
 obtain ⟨v', w', hr, h2, h3, _⟩ := run_append_own (P := Tryz.prog) (W.alloc (.cells (gC y).toArray 36)) B 31 0 36 i0 _ 5 40 Tryz.underlying31 hi hz0 hz1 hz2 rfl (by omega) v l.length (gR l) ho' ⟨W.heap.size, 0, none⟩ 1 1 (gC y) rfl (fun j u hu => by rw [Addr.add_lit, Nat.zero_add]; exact hBk.at_ hu) (gC_one y) (by unfold maxLen; omega) (by omega) (by rw [World.size_alloc]; omega)
 refine ⟨v', w', fun ty => by rw [← hr]; rfl, ?_, hba.grown h3 (by rw [World.size_alloc]; omega) (fun r e => (World.ownsRow.lt ho' r e).1)⟩
 rw [gR_append, List.length_append]
 have : gR [y] = gC y := by unfold gR; simp
 rw [this]; exact h2
structure StW (w : World) (tb : Nat) (r : List Value) (x : Lst) (W : World) : Prop where
 bB : Blk W tb 34 r
 bG : Blk W (tb + 1) 36 (gC x)
 bZ : Blk W (tb + 1 + 1) 34 (dirC 0 none 0 0 none 0 0)
 bel : Below w.heap.size w W
section
variable {w W W2 : World} {tb : Nat} {r : List Value} {x : Lst}
theorem StW.next (h : StW w tb r x W) (hb : Below W.heap.size W W2) : StW w tb r x W2 := ⟨h.bB.below hb h.bB.lt, h.bG.below hb h.bG.lt, h.bZ.below hb h.bZ.lt, h.bel.trans (hb.mono h.bel.size)⟩
theorem StW.nextB {B : Nat} (h : StW w tb r x W) (hb : Below B W W2) (h1 : tb + 1 + 1 < B) (h2 : w.heap.size ≤ B) : StW w tb r x W2 := ⟨h.bB.below hb (by omega), h.bG.below hb (by omega), h.bZ.below hb h1, h.bel.trans (hb.mono h2)⟩
theorem StW.drewN (h : StW w tb r x W) (n : Nat) : StW w tb r x (W.drewN n) := h.next (Go.Mem.below_drewN _ _ _)
end

set_option maxRecDepth 20000 in
set_option maxHeartbeats 4000000 in
theorem r35set_key (K : Nat → Prop) (D : Dir) (la : Option Addr) (ln lc : Nat) (ra : Option Addr) (rn rc : Nat) (x : Lst) (hx : OkG x) (w : World) (HT : Tabs w) (H : DM K w D la ln lc ra rn rc) (hk : keyOk D.priv = false) :
 Calls Tryz.prog 18 #[.agg (dirC D.priv la ln lc ra rn rc).toArray, .agg (gC x).toArray] w (fun e w' => e = .returned (.tuple #[.agg (dirC 0 none 0 0 none 0 0).toArray, .int .i64 50]) ∧ Below w.heap.size w w') := by
 suffices hh : ∀ X : Ending → World → Prop, (∀ W9, Below w.heap.size w W9 → X (.returned (.tuple #[.agg (dirC 0 none 0 0 none 0 0).toArray, .int .i64 50])) W9) → Calls Tryz.prog 18 #[.agg (dirC D.priv la ln lc ra rn rc).toArray, .agg (gC x).toArray] w X from hh _ (fun W9 h => ⟨rfl, h⟩)
 intro X hX0
 have hX := Lib.hid hX0
 clear hX0
 have HT' := Lib.hid HT; have hgs := Lib.hid H.gs; have hqs := Lib.hid H.qs; have hpr := Lib.hid H.pr; have hx' := Lib.hid hx
 obtain ⟨tb, htb⟩ : ∃ tb, Hid (w.heap.size = tb) := ⟨_, rfl⟩
 have hpv := Lib.hid (r5private_any D.priv)
 have hck := Lib.hid (r35check_any K la ln lc D.ls)
 have hvl := Lib.hid (fun W => r35valid_any x W)
 have hln : Hid (D.ls.length = ln) := RS.len H.gs
 have lnx : (ln : Int) ≤ 9223372036854775807 := by have := RS.le H.gs; have := RS.max H.gs; omega
 clear H hx HT
 obtain ⟨rr, hrr⟩ : ∃ rr, Hid (dirC D.priv la ln lc ra rn rc = rr) := ⟨_, rfl⟩
 have hr0 : Hid (rr[0]? = some (.int .i64 D.priv)) := by rw [← hrr.out]; exact rfl
 have hrs : Hid (∀ a n c, rr.set 1 (.slice a n c) = dirC D.priv a n c ra rn rc) := by rw [← hrr.out]; exact fun a n c => rfl
 have hr1 : Hid (rr[1]? = some (.slice la ln lc)) := by rw [← hrr.out]; exact rfl
 go_enter Tryz.func18, Tryz.ntmps18
 go_upto_region 1 with fail
 rw [htb.out]
 generalize hW : World.alloc _ _ = W
 have hS : Hid (StW w tb rr x W) := by
  rw [← hW, ← htb.out, ← hrr.out]
  refine ⟨((Blk.new w _ (dirC D.priv la ln lc ra rn rc)).alloc _).alloc _, ?_, ?_, (((Below.refl _ w).alloc (Nat.le_refl _) _).alloc (by simp) _).alloc (by simp; omega) _⟩
  · have := (Blk.new (w.alloc (.cells (dirC D.priv la ln lc ra rn rc).toArray 34)) 36 (gC x)).alloc (.cells (dirC 0 none 0 0 none 0 0).toArray 34)
    rwa [World.size_alloc] at this
  · have := Blk.new ((w.alloc (.cells (dirC D.priv la ln lc ra rn rc).toArray 34)).alloc (.cells (gC x).toArray 36)) 34 (dirC 0 none 0 0 none 0 0)
    rwa [World.size_alloc, World.size_alloc] at this
 clear hW
 have c0 := hS.out.bB.at_ hr0.out
 go_wp2_with fail
 refine (hpv.out _).mono ?_
 rintro e wx ⟨rfl, hwx⟩
 rw [hwx]
 clear hwx wx c0
 rw [hk]
 obtain ⟨W9, hP⟩ := put_row (ty := 34) hS.out.bZ (x := dirC 0 none 0 0 none 0 0) rfl sizeDr (by intro u hu; simp only [dirC, List.mem_cons, List.not_mem_nil, or_false] at hu; rcases hu with rfl | rfl | rfl <;> rfl)
 have hbk := Lib.hid hP.blk
 have hfin := Lib.hid (hX.out _ (below_grown hS.out.bel hP.grown hS.out.bel.size (by have := htb.out; omega)))
 have hP' := Lib.hid hP
 have hzi : Hid ((Tryz.prog.info? 34).map (·.size) = some (dirC 0 none 0 0 none 0 0).length) := sizeDr
 clear hP hX hS
 go_wp2_with (first
  | (refine wpList_store_mid (by rfl) 34 (.tmp 4) (.tmp 16) (by rfl) (tb + 1 + 1) 0 (dirC 0 none 0 0 none 0 0).toArray (by rfl) (by rfl) hP'.out.there hP'.out.info (by simpa using hP'.out.one) ?_
     generalize hWq : World.setCells _ _ _ _ = Wa
     obtain rfl : W9 = Wa := by rw [← hWq]; exact hP'.out.eq
     clear hWq))
 refine ret_cell_tmp (p := 4) (u := 5) rfl hbk.out Tryz.underlying34 rfl hzi.out rfl rfl rfl ?_
 exact hfin.out

set_option maxRecDepth 20000 in
set_option maxHeartbeats 4000000 in
theorem r35set_chk (K : Nat → Prop) (D : Dir) (la : Option Addr) (ln lc : Nat) (ra : Option Addr) (rn rc : Nat) (x : Lst) (hx : OkG x) (w : World) (HT : Tabs w) (H : DM K w D la ln lc ra rn rc) (hk : keyOk D.priv = true) (hc : Go.Dr.chkL D.ls = false) :
 Calls Tryz.prog 18 #[.agg (dirC D.priv la ln lc ra rn rc).toArray, .agg (gC x).toArray] w (fun e w' => e = .returned (.tuple #[.agg (dirC 0 none 0 0 none 0 0).toArray, .int .i64 350]) ∧ Below w.heap.size w w') := by
 suffices hh : ∀ X : Ending → World → Prop, (∀ W9, Below w.heap.size w W9 → X (.returned (.tuple #[.agg (dirC 0 none 0 0 none 0 0).toArray, .int .i64 350])) W9) → Calls Tryz.prog 18 #[.agg (dirC D.priv la ln lc ra rn rc).toArray, .agg (gC x).toArray] w X from hh _ (fun W9 h => ⟨rfl, h⟩)
 intro X hX0
 have hX := Lib.hid hX0
 clear hX0
 have HT' := Lib.hid HT; have hgs := Lib.hid H.gs; have hqs := Lib.hid H.qs; have hpr := Lib.hid H.pr; have hx' := Lib.hid hx
 obtain ⟨tb, htb⟩ : ∃ tb, Hid (w.heap.size = tb) := ⟨_, rfl⟩
 have hpv := Lib.hid (r5private_any D.priv)
 have hck := Lib.hid (r35check_any K la ln lc D.ls)
 have hvl := Lib.hid (fun W => r35valid_any x W)
 have hln : Hid (D.ls.length = ln) := RS.len H.gs
 have lnx : (ln : Int) ≤ 9223372036854775807 := by have := RS.le H.gs; have := RS.max H.gs; omega
 clear H hx HT
 obtain ⟨rr, hrr⟩ : ∃ rr, Hid (dirC D.priv la ln lc ra rn rc = rr) := ⟨_, rfl⟩
 have hr0 : Hid (rr[0]? = some (.int .i64 D.priv)) := by rw [← hrr.out]; exact rfl
 have hrs : Hid (∀ a n c, rr.set 1 (.slice a n c) = dirC D.priv a n c ra rn rc) := by rw [← hrr.out]; exact fun a n c => rfl
 have hr1 : Hid (rr[1]? = some (.slice la ln lc)) := by rw [← hrr.out]; exact rfl
 go_enter Tryz.func18, Tryz.ntmps18
 go_upto_region 1 with fail
 rw [htb.out]
 generalize hW : World.alloc _ _ = W
 have hS : Hid (StW w tb rr x W) := by
  rw [← hW, ← htb.out, ← hrr.out]
  refine ⟨((Blk.new w _ (dirC D.priv la ln lc ra rn rc)).alloc _).alloc _, ?_, ?_, (((Below.refl _ w).alloc (Nat.le_refl _) _).alloc (by simp) _).alloc (by simp; omega) _⟩
  · have := (Blk.new (w.alloc (.cells (dirC D.priv la ln lc ra rn rc).toArray 34)) 36 (gC x)).alloc (.cells (dirC 0 none 0 0 none 0 0).toArray 34)
    rwa [World.size_alloc] at this
  · have := Blk.new ((w.alloc (.cells (dirC D.priv la ln lc ra rn rc).toArray 34)).alloc (.cells (gC x).toArray 36)) 34 (dirC 0 none 0 0 none 0 0)
    rwa [World.size_alloc, World.size_alloc] at this
 clear hW
 have c0 := hS.out.bB.at_ hr0.out
 go_wp2_with fail
 refine (hpv.out _).mono ?_
 rintro e wx ⟨rfl, hwx⟩
 rw [hwx]
 clear hwx wx c0
 rw [hk]
 have c1 := hS.out.bB.at_ hr1.out
 go_wp2_with fail
 refine (hck.out _ (hgs.out.below hS.out.bel)).mono ?_
 rintro e w1 ⟨rfl, hb1⟩
 have hS1 := Lib.hid (hS.out.next hb1)
 clear hb1 hS c1
 rw [hc]
 rw [if_neg (by simp)]
 obtain ⟨W9, hP⟩ := put_row (ty := 34) hS1.out.bZ (x := dirC 0 none 0 0 none 0 0) rfl sizeDr (by intro u hu; simp only [dirC, List.mem_cons, List.not_mem_nil, or_false] at hu; rcases hu with rfl | rfl | rfl <;> rfl)
 have hbk := Lib.hid hP.blk
 have hfin := Lib.hid (hX.out _ (below_grown hS1.out.bel hP.grown hS1.out.bel.size (by have := htb.out; omega)))
 have hP' := Lib.hid hP
 have hzi : Hid ((Tryz.prog.info? 34).map (·.size) = some (dirC 0 none 0 0 none 0 0).length) := sizeDr
 clear hP hX hS1
 go_wp2_with (first
  | (refine wpList_store_mid (by rfl) 34 (.tmp 4) (.tmp 22) (by rfl) (tb + 1 + 1) 0 (dirC 0 none 0 0 none 0 0).toArray (by rfl) (by rfl) hP'.out.there hP'.out.info (by simpa using hP'.out.one) ?_
     generalize hWq : World.setCells _ _ _ _ = Wa
     obtain rfl : W9 = Wa := by rw [← hWq]; exact hP'.out.eq
     clear hWq))
 refine ret_cell_tmp (p := 4) (u := 5) rfl hbk.out Tryz.underlying34 rfl hzi.out rfl rfl rfl ?_
 exact hfin.out

set_option maxRecDepth 20000 in
set_option maxHeartbeats 4000000 in
theorem r35set_unfit (K : Nat → Prop) (D : Dir) (la : Option Addr) (ln lc : Nat) (ra : Option Addr) (rn rc : Nat) (x : Lst) (hx : OkG x) (w : World) (HT : Tabs w) (H : DM K w D la ln lc ra rn rc) (hk : keyOk D.priv = true) (hc : Go.Dr.chkL D.ls = true) (hf : Go.Dr.fitsB x = false) :
 Calls Tryz.prog 18 #[.agg (dirC D.priv la ln lc ra rn rc).toArray, .agg (gC x).toArray] w (fun e w' => e = .returned (.tuple #[.agg (dirC 0 none 0 0 none 0 0).toArray, .int .i64 350]) ∧ Below w.heap.size w w') := by
 suffices hh : ∀ X : Ending → World → Prop, (∀ W9, Below w.heap.size w W9 → X (.returned (.tuple #[.agg (dirC 0 none 0 0 none 0 0).toArray, .int .i64 350])) W9) → Calls Tryz.prog 18 #[.agg (dirC D.priv la ln lc ra rn rc).toArray, .agg (gC x).toArray] w X from hh _ (fun W9 h => ⟨rfl, h⟩)
 intro X hX0
 have hX := Lib.hid hX0
 clear hX0
 have HT' := Lib.hid HT; have hgs := Lib.hid H.gs; have hqs := Lib.hid H.qs; have hpr := Lib.hid H.pr; have hx' := Lib.hid hx
 obtain ⟨tb, htb⟩ : ∃ tb, Hid (w.heap.size = tb) := ⟨_, rfl⟩
 have hpv := Lib.hid (r5private_any D.priv)
 have hck := Lib.hid (r35check_any K la ln lc D.ls)
 have hvl := Lib.hid (fun W => r35valid_any x W)
 have hln : Hid (D.ls.length = ln) := RS.len H.gs
 have lnx : (ln : Int) ≤ 9223372036854775807 := by have := RS.le H.gs; have := RS.max H.gs; omega
 clear H hx HT
 obtain ⟨rr, hrr⟩ : ∃ rr, Hid (dirC D.priv la ln lc ra rn rc = rr) := ⟨_, rfl⟩
 have hr0 : Hid (rr[0]? = some (.int .i64 D.priv)) := by rw [← hrr.out]; exact rfl
 have hrs : Hid (∀ a n c, rr.set 1 (.slice a n c) = dirC D.priv a n c ra rn rc) := by rw [← hrr.out]; exact fun a n c => rfl
 have hr1 : Hid (rr[1]? = some (.slice la ln lc)) := by rw [← hrr.out]; exact rfl
 go_enter Tryz.func18, Tryz.ntmps18
 go_upto_region 1 with fail
 rw [htb.out]
 generalize hW : World.alloc _ _ = W
 have hS : Hid (StW w tb rr x W) := by
  rw [← hW, ← htb.out, ← hrr.out]
  refine ⟨((Blk.new w _ (dirC D.priv la ln lc ra rn rc)).alloc _).alloc _, ?_, ?_, (((Below.refl _ w).alloc (Nat.le_refl _) _).alloc (by simp) _).alloc (by simp; omega) _⟩
  · have := (Blk.new (w.alloc (.cells (dirC D.priv la ln lc ra rn rc).toArray 34)) 36 (gC x)).alloc (.cells (dirC 0 none 0 0 none 0 0).toArray 34)
    rwa [World.size_alloc] at this
  · have := Blk.new ((w.alloc (.cells (dirC D.priv la ln lc ra rn rc).toArray 34)).alloc (.cells (gC x).toArray 36)) 34 (dirC 0 none 0 0 none 0 0)
    rwa [World.size_alloc, World.size_alloc] at this
 clear hW
 have c0 := hS.out.bB.at_ hr0.out
 go_wp2_with fail
 refine (hpv.out _).mono ?_
 rintro e wx ⟨rfl, hwx⟩
 rw [hwx]
 clear hwx wx c0
 rw [hk]
 have c1 := hS.out.bB.at_ hr1.out
 go_wp2_with fail
 refine (hck.out _ (hgs.out.below hS.out.bel)).mono ?_
 rintro e w1 ⟨rfl, hb1⟩
 have hS1 := Lib.hid (hS.out.next hb1)
 clear hb1 hS c1
 rw [hc, if_pos rfl]
 have c1 := hS1.out.bB.at_ hr1.out
 have c2 := hS1.out.bG.at_ (i := 0) (x := .int .i64 x.dev) rfl
 have hgi := Lib.hid (show (Tryz.prog.info? 36).map (·.size) = some (gC x).length from sizeG)
 go_wp2_with fail
 refine (r35of_any K la ln lc D.ls x.dev w1 (hgs.out.below hS1.out.bel)).mono ?_
 rintro e w2 ⟨rfl, hb2⟩
 have hS2 := Lib.hid (hS1.out.next hb2)
 clear hb2 hS1 c1 c2
 have hbd := Lib.hid (Go.Dr.ofZ_bd hc x.dev)
 have hov := Lib.hid (Go.Dr.ofZ_vers D.ls x.dev)
 obtain ⟨y, hy⟩ : ∃ y, Hid (Go.Dr.ofZ D.ls x.dev = y) := ⟨_, rfl⟩
 obtain ⟨fd, hfd⟩ : ∃ fd, Hid ((Go.Dr.ofL D.ls x.dev).isSome = fd) := ⟨_, rfl⟩
 rw [hy.out] at hbd hov ⊢
 rw [hfd.out]
 obtain ⟨ob, hob⟩ : ∃ ob, Hid (w2.heap.size = ob) := ⟨_, rfl⟩
 have hA : Hid (Blk (w2.alloc (.cells (gC Go.Dr.zeroL).toArray 36)) ob 36 (gC Go.Dr.zeroL)) := by rw [← hob.out]; exact Blk.new w2 _ _
 have hPy := Lib.hid (put_g y hA.out)
 have hS2a := hS2.out.next ((Below.refl _ w2).alloc (Nat.le_refl _) (.cells (gC Go.Dr.zeroL).toArray 36))
 have hobl : tb + 1 + 1 < ob := by rw [← hob.out]; exact hS2.out.bZ.lt
 obtain ⟨w3, hw3⟩ : ∃ w3, Hid ((w2.alloc (.cells (gC Go.Dr.zeroL).toArray 36)).setCells ob 0 (gC y) = w3) := ⟨_, rfl⟩
 have hS3 : Hid (StW w tb rr x w3) := by
  rw [← hw3.out]
  exact ⟨hS2a.bB.grown hPy.out.grw (fun e => by injection e with e; omega), hS2a.bG.grown hPy.out.grw (fun e => by injection e with e; omega), hS2a.bZ.grown hPy.out.grw (fun e => by injection e with e; omega), below_grown hS2a.bel hPy.out.grw hS2a.bel.size (by have := htb.out; omega)⟩
 have hO3 : Hid (Blk w3 ob 36 (gC y)) := by rw [← hw3.out]; exact hPy.out.blk
 have hrx := Lib.hid hS3.out.bG.range
 clear hS2a hS2 hA
 go_wp2_with (first
  | (rw [hob.out]; refine wpList_store_mid (by rfl) 36 (.tmp 7) (.tmp 30) (by rfl) ob 0 (gC y).toArray (by rfl) (by rfl) hPy.out.th hPy.out.inf hPy.out.one ?_; generalize hWq : World.setCells _ _ _ _ = Wq; obtain rfl : w3 = Wq := by { rw [← hWq]; exact hw3.out.symm }; clear hWq)
   | (refine wpList_load_mid (by rfl) 36 (.tmp 3) (by rfl) (tb + 1) 0 (by rfl) (gC x) _ hrx.out Tryz.underlying36 (by rfl) hgi.out ?_))
 refine (hvl.out w3).mono ?_
 rintro e w4 ⟨rfl, hb4⟩
 have hS4 := Lib.hid (hS3.out.next hb4)
 have hO4 := Lib.hid (hO3.out.below hb4 hO3.out.lt)
 clear hb4 hS3 hO3 hrx hw3 hPy
 rw [hf]
 obtain ⟨W9, hP⟩ := put_row (ty := 34) hS4.out.bZ (x := dirC 0 none 0 0 none 0 0) rfl sizeDr (by intro u hu; simp only [dirC, List.mem_cons, List.not_mem_nil, or_false] at hu; rcases hu with rfl | rfl | rfl <;> rfl)
 have hbk := Lib.hid hP.blk
 have hfin := Lib.hid (hX.out _ (below_grown hS4.out.bel hP.grown hS4.out.bel.size (by have := htb.out; omega)))
 have hP' := Lib.hid hP
 have hzi : Hid ((Tryz.prog.info? 34).map (·.size) = some (dirC 0 none 0 0 none 0 0).length) := sizeDr
 clear hP hX hS4
 go_wp2_with (first
  | (refine wpList_store_mid (by rfl) 34 (.tmp 4) (.tmp 43) (by rfl) (tb + 1 + 1) 0 (dirC 0 none 0 0 none 0 0).toArray (by rfl) (by rfl) hP'.out.there hP'.out.info (by simpa using hP'.out.one) ?_
     generalize hWq : World.setCells _ _ _ _ = Wa
     obtain rfl : W9 = Wa := by rw [← hWq]; exact hP'.out.eq
     clear hWq))
 refine ret_cell_tmp (p := 4) (u := 5) rfl hbk.out Tryz.underlying34 rfl hzi.out rfl rfl rfl ?_
 exact hfin.out

set_option maxRecDepth 20000 in
set_option maxHeartbeats 4000000 in
theorem r35set_old (K : Nat → Prop) (D : Dir) (la : Option Addr) (ln lc : Nat) (ra : Option Addr) (rn rc : Nat) (x : Lst) (hx : OkG x) (w : World) (HT : Tabs w) (H : DM K w D la ln lc ra rn rc) (hk : keyOk D.priv = true) (hc : Go.Dr.chkL D.ls = true) (hf : Go.Dr.fitsB x = true) (hv : ¬ x.vers = Go.Dr.oldV D.ls x.dev + 1) :
 Calls Tryz.prog 18 #[.agg (dirC D.priv la ln lc ra rn rc).toArray, .agg (gC x).toArray] w (fun e w' => e = .returned (.tuple #[.agg (dirC 0 none 0 0 none 0 0).toArray, .int .i64 350]) ∧ Below w.heap.size w w') := by
 suffices hh : ∀ X : Ending → World → Prop, (∀ W9, Below w.heap.size w W9 → X (.returned (.tuple #[.agg (dirC 0 none 0 0 none 0 0).toArray, .int .i64 350])) W9) → Calls Tryz.prog 18 #[.agg (dirC D.priv la ln lc ra rn rc).toArray, .agg (gC x).toArray] w X from hh _ (fun W9 h => ⟨rfl, h⟩)
 intro X hX0
 have hX := Lib.hid hX0
 clear hX0
 have HT' := Lib.hid HT; have hgs := Lib.hid H.gs; have hqs := Lib.hid H.qs; have hpr := Lib.hid H.pr; have hx' := Lib.hid hx
 obtain ⟨tb, htb⟩ : ∃ tb, Hid (w.heap.size = tb) := ⟨_, rfl⟩
 have hpv := Lib.hid (r5private_any D.priv)
 have hck := Lib.hid (r35check_any K la ln lc D.ls)
 have hvl := Lib.hid (fun W => r35valid_any x W)
 have hln : Hid (D.ls.length = ln) := RS.len H.gs
 have lnx : (ln : Int) ≤ 9223372036854775807 := by have := RS.le H.gs; have := RS.max H.gs; omega
 clear H hx HT
 obtain ⟨rr, hrr⟩ : ∃ rr, Hid (dirC D.priv la ln lc ra rn rc = rr) := ⟨_, rfl⟩
 have hr0 : Hid (rr[0]? = some (.int .i64 D.priv)) := by rw [← hrr.out]; exact rfl
 have hrs : Hid (∀ a n c, rr.set 1 (.slice a n c) = dirC D.priv a n c ra rn rc) := by rw [← hrr.out]; exact fun a n c => rfl
 have hr1 : Hid (rr[1]? = some (.slice la ln lc)) := by rw [← hrr.out]; exact rfl
 go_enter Tryz.func18, Tryz.ntmps18
 go_upto_region 1 with fail
 rw [htb.out]
 generalize hW : World.alloc _ _ = W
 have hS : Hid (StW w tb rr x W) := by
  rw [← hW, ← htb.out, ← hrr.out]
  refine ⟨((Blk.new w _ (dirC D.priv la ln lc ra rn rc)).alloc _).alloc _, ?_, ?_, (((Below.refl _ w).alloc (Nat.le_refl _) _).alloc (by simp) _).alloc (by simp; omega) _⟩
  · have := (Blk.new (w.alloc (.cells (dirC D.priv la ln lc ra rn rc).toArray 34)) 36 (gC x)).alloc (.cells (dirC 0 none 0 0 none 0 0).toArray 34)
    rwa [World.size_alloc] at this
  · have := Blk.new ((w.alloc (.cells (dirC D.priv la ln lc ra rn rc).toArray 34)).alloc (.cells (gC x).toArray 36)) 34 (dirC 0 none 0 0 none 0 0)
    rwa [World.size_alloc, World.size_alloc] at this
 clear hW
 have c0 := hS.out.bB.at_ hr0.out
 go_wp2_with fail
 refine (hpv.out _).mono ?_
 rintro e wx ⟨rfl, hwx⟩
 rw [hwx]
 clear hwx wx c0
 rw [hk]
 have c1 := hS.out.bB.at_ hr1.out
 go_wp2_with fail
 refine (hck.out _ (hgs.out.below hS.out.bel)).mono ?_
 rintro e w1 ⟨rfl, hb1⟩
 have hS1 := Lib.hid (hS.out.next hb1)
 clear hb1 hS c1
 rw [hc, if_pos rfl]
 have c1 := hS1.out.bB.at_ hr1.out
 have c2 := hS1.out.bG.at_ (i := 0) (x := .int .i64 x.dev) rfl
 have hgi := Lib.hid (show (Tryz.prog.info? 36).map (·.size) = some (gC x).length from sizeG)
 go_wp2_with fail
 refine (r35of_any K la ln lc D.ls x.dev w1 (hgs.out.below hS1.out.bel)).mono ?_
 rintro e w2 ⟨rfl, hb2⟩
 have hS2 := Lib.hid (hS1.out.next hb2)
 clear hb2 hS1 c1 c2
 have hbd := Lib.hid (Go.Dr.ofZ_bd hc x.dev)
 have hov := Lib.hid (Go.Dr.ofZ_vers D.ls x.dev)
 obtain ⟨y, hy⟩ : ∃ y, Hid (Go.Dr.ofZ D.ls x.dev = y) := ⟨_, rfl⟩
 obtain ⟨fd, hfd⟩ : ∃ fd, Hid ((Go.Dr.ofL D.ls x.dev).isSome = fd) := ⟨_, rfl⟩
 rw [hy.out] at hbd hov ⊢
 rw [hfd.out]
 obtain ⟨ob, hob⟩ : ∃ ob, Hid (w2.heap.size = ob) := ⟨_, rfl⟩
 have hA : Hid (Blk (w2.alloc (.cells (gC Go.Dr.zeroL).toArray 36)) ob 36 (gC Go.Dr.zeroL)) := by rw [← hob.out]; exact Blk.new w2 _ _
 have hPy := Lib.hid (put_g y hA.out)
 have hS2a := hS2.out.next ((Below.refl _ w2).alloc (Nat.le_refl _) (.cells (gC Go.Dr.zeroL).toArray 36))
 have hobl : tb + 1 + 1 < ob := by rw [← hob.out]; exact hS2.out.bZ.lt
 obtain ⟨w3, hw3⟩ : ∃ w3, Hid ((w2.alloc (.cells (gC Go.Dr.zeroL).toArray 36)).setCells ob 0 (gC y) = w3) := ⟨_, rfl⟩
 have hS3 : Hid (StW w tb rr x w3) := by
  rw [← hw3.out]
  exact ⟨hS2a.bB.grown hPy.out.grw (fun e => by injection e with e; omega), hS2a.bG.grown hPy.out.grw (fun e => by injection e with e; omega), hS2a.bZ.grown hPy.out.grw (fun e => by injection e with e; omega), below_grown hS2a.bel hPy.out.grw hS2a.bel.size (by have := htb.out; omega)⟩
 have hO3 : Hid (Blk w3 ob 36 (gC y)) := by rw [← hw3.out]; exact hPy.out.blk
 have hrx := Lib.hid hS3.out.bG.range
 clear hS2a hS2 hA
 go_wp2_with (first
  | (rw [hob.out]; refine wpList_store_mid (by rfl) 36 (.tmp 7) (.tmp 30) (by rfl) ob 0 (gC y).toArray (by rfl) (by rfl) hPy.out.th hPy.out.inf hPy.out.one ?_; generalize hWq : World.setCells _ _ _ _ = Wq; obtain rfl : w3 = Wq := by { rw [← hWq]; exact hw3.out.symm }; clear hWq)
   | (refine wpList_load_mid (by rfl) 36 (.tmp 3) (by rfl) (tb + 1) 0 (by rfl) (gC x) _ hrx.out Tryz.underlying36 (by rfl) hgi.out ?_))
 refine (hvl.out w3).mono ?_
 rintro e w4 ⟨rfl, hb4⟩
 have hS4 := Lib.hid (hS3.out.next hb4)
 have hO4 := Lib.hid (hO3.out.below hb4 hO3.out.lt)
 clear hb4 hS3 hO3 hrx hw3 hPy
 rw [hf]
 have v3 := hS4.out.bG.at_ (i := 3) (x := .int .i64 x.vers) rfl
 have o3 := hO4.out.at_ (i := 3) (x := .int .i64 y.vers) rfl
 have hwy : IntKind.i64.wrap (y.vers + 1) = y.vers + 1 := IntWalk.i64_in _ ⟨by have := hbd.out; omega, by have := hbd.out; omega⟩
 have hy0 : 0 ≤ y.vers := hbd.out.1
 have hy1 : y.vers ≤ 1048576 := hbd.out.2
 have hne : (x.vers != y.vers + 1) = true := by have := hov.out; simp; omega
 clear hv
 obtain ⟨W9, hP⟩ := put_row (ty := 34) hS4.out.bZ (x := dirC 0 none 0 0 none 0 0) rfl sizeDr (by intro u hu; simp only [dirC, List.mem_cons, List.not_mem_nil, or_false] at hu; rcases hu with rfl | rfl | rfl <;> rfl)
 have hbk := Lib.hid hP.blk
 have hfin := Lib.hid (hX.out _ (below_grown hS4.out.bel hP.grown hS4.out.bel.size (by have := htb.out; omega)))
 have hP' := Lib.hid hP
 have hzi : Hid ((Tryz.prog.info? 34).map (·.size) = some (dirC 0 none 0 0 none 0 0).length) := sizeDr
 clear hP hX hS4
 go_wp2_with (first
  | (refine wpList_store_mid (by rfl) 34 (.tmp 4) (.tmp 43) (by rfl) (tb + 1 + 1) 0 (dirC 0 none 0 0 none 0 0).toArray (by rfl) (by rfl) hP'.out.there hP'.out.info (by simpa using hP'.out.one) ?_
     generalize hWq : World.setCells _ _ _ _ = Wa
     obtain rfl : W9 = Wa := by rw [← hWq]; exact hP'.out.eq
     clear hWq))
 refine ret_cell_tmp (p := 4) (u := 5) rfl hbk.out Tryz.underlying34 rfl hzi.out rfl rfl rfl ?_
 exact hfin.out

set_option maxRecDepth 20000 in
set_option maxHeartbeats 16000000 in
theorem r35set_ok (K : Nat → Prop) (D : Dir) (la : Option Addr) (ln lc : Nat) (ra : Option Addr) (rn rc : Nat) (x : Lst) (hx : OkG x) (w : World) (HT : Tabs w) (H : DM K w D la ln lc ra rn rc) (hk : keyOk D.priv = true) (hc : Go.Dr.chkL D.ls = true) (hf : Go.Dr.fitsB x = true) (hv : x.vers = Go.Dr.oldV D.ls x.dev + 1) :
 Calls Tryz.prog 18 #[.agg (dirC D.priv la ln lc ra rn rc).toArray, .agg (gC x).toArray] w (SetPost (Go.Dr.setD 4 D x) w) := by
 suffices hh : ∀ X : Ending → World → Prop, (∀ e W9, SetPost (Go.Dr.setD 4 D x) w e W9 → X e W9) → Calls Tryz.prog 18 #[.agg (dirC D.priv la ln lc ra rn rc).toArray, .agg (gC x).toArray] w X from hh _ (fun e W9 h => h)
 intro X hX0
 have hX := Lib.hid hX0
 clear hX0
 have hset : Hid (Go.Dr.setD 4 D x = Go.Dr.tickD 4 ⟨D.priv, Go.Dr.insL x D.ls, D.rs⟩) := by
  show _ = _
  unfold Go.Dr.setD
  rw [if_pos hk, if_pos hc, if_pos (by rw [hf, decide_eq_true hv]; rfl)]
 have hls : Hid ((Go.Dr.setD 4 D x).2 = 0 → (Go.Dr.setD 4 D x).1.ls = Go.Dr.insL x D.ls) := fun h0 => by
  obtain ⟨E, hE⟩ : ∃ E, Go.Dr.setD 4 D x = (E, 0) := ⟨(Go.Dr.setD 4 D x).1, by rw [← h0]⟩
  obtain ⟨_, _, _, _, _, h6⟩ := Go.Dr.set_ok hE
  rw [hE, h6]
 have hpv9 : Hid ((Go.Dr.setD 4 D x).2 = 0 → (Go.Dr.setD 4 D x).1.priv = D.priv) := fun h0 => by
  obtain ⟨E, hE⟩ : ∃ E, Go.Dr.setD 4 D x = (E, 0) := ⟨(Go.Dr.setD 4 D x).1, by rw [← h0]⟩
  obtain ⟨_, _, _, _, _, h6⟩ := Go.Dr.set_ok hE
  rw [hE, h6]
 obtain ⟨RES, hRES⟩ : ∃ RES, Hid (Go.Dr.insL x D.ls = RES) := ⟨_, rfl⟩
 have hgo : Hid (Go.Dr.setGo x D.ls false = RES) := by show _ = _; rw [← hRES.out]; exact Go.Dr.setGo_eq hc
 rw [hRES.out] at hset hls
 have hokR : Hid (∀ y ∈ RES, OkG y) := fun y hy => by
  rw [← hRES.out] at hy
  rcases Go.Dr.mem_insL hy with rfl | h
  · exact hx
  · exact (GS.oks H.gs) y h
 have h512 := Lib.hid (Go.Dr.chkL_len hc)
 have HT' := Lib.hid HT; have hgs := Lib.hid H.gs; have hqs := Lib.hid H.qs; have hpr := Lib.hid H.pr; have hx' := Lib.hid hx
 obtain ⟨tb, htb⟩ : ∃ tb, Hid (w.heap.size = tb) := ⟨_, rfl⟩
 have hpv := Lib.hid (r5private_any D.priv)
 have hck := Lib.hid (r35check_any K la ln lc D.ls)
 have hvl := Lib.hid (fun W => r35valid_any x W)
 have hln : Hid (D.ls.length = ln) := RS.len H.gs
 have lnx : (ln : Int) ≤ 9223372036854775807 := by have := RS.le H.gs; have := RS.max H.gs; omega
 clear H hx HT
 obtain ⟨rr, hrr⟩ : ∃ rr, Hid (dirC D.priv la ln lc ra rn rc = rr) := ⟨_, rfl⟩
 have hr0 : Hid (rr[0]? = some (.int .i64 D.priv)) := by rw [← hrr.out]; exact rfl
 have hrs : Hid (∀ a n c, rr.set 1 (.slice a n c) = dirC D.priv a n c ra rn rc) := by rw [← hrr.out]; exact fun a n c => rfl
 have hr1 : Hid (rr[1]? = some (.slice la ln lc)) := by rw [← hrr.out]; exact rfl
 go_enter Tryz.func18, Tryz.ntmps18
 go_upto_region 1 with fail
 rw [htb.out]
 generalize hW : World.alloc _ _ = W
 have hS : Hid (StW w tb rr x W) := by
  rw [← hW, ← htb.out, ← hrr.out]
  refine ⟨((Blk.new w _ (dirC D.priv la ln lc ra rn rc)).alloc _).alloc _, ?_, ?_, (((Below.refl _ w).alloc (Nat.le_refl _) _).alloc (by simp) _).alloc (by simp; omega) _⟩
  · have := (Blk.new (w.alloc (.cells (dirC D.priv la ln lc ra rn rc).toArray 34)) 36 (gC x)).alloc (.cells (dirC 0 none 0 0 none 0 0).toArray 34)
    rwa [World.size_alloc] at this
  · have := Blk.new ((w.alloc (.cells (dirC D.priv la ln lc ra rn rc).toArray 34)).alloc (.cells (gC x).toArray 36)) 34 (dirC 0 none 0 0 none 0 0)
    rwa [World.size_alloc, World.size_alloc] at this
 clear hW
 have c0 := hS.out.bB.at_ hr0.out
 go_wp2_with fail
 refine (hpv.out _).mono ?_
 rintro e wx ⟨rfl, hwx⟩
 rw [hwx]
 clear hwx wx c0
 rw [hk]
 have c1 := hS.out.bB.at_ hr1.out
 go_wp2_with fail
 refine (hck.out _ (hgs.out.below hS.out.bel)).mono ?_
 rintro e w1 ⟨rfl, hb1⟩
 have hS1 := Lib.hid (hS.out.next hb1)
 clear hb1 hS c1
 rw [hc, if_pos rfl]
 have c1 := hS1.out.bB.at_ hr1.out
 have c2 := hS1.out.bG.at_ (i := 0) (x := .int .i64 x.dev) rfl
 have hgi := Lib.hid (show (Tryz.prog.info? 36).map (·.size) = some (gC x).length from sizeG)
 go_wp2_with fail
 refine (r35of_any K la ln lc D.ls x.dev w1 (hgs.out.below hS1.out.bel)).mono ?_
 rintro e w2 ⟨rfl, hb2⟩
 have hS2 := Lib.hid (hS1.out.next hb2)
 clear hb2 hS1 c1 c2
 have hbd := Lib.hid (Go.Dr.ofZ_bd hc x.dev)
 have hov := Lib.hid (Go.Dr.ofZ_vers D.ls x.dev)
 obtain ⟨y, hy⟩ : ∃ y, Hid (Go.Dr.ofZ D.ls x.dev = y) := ⟨_, rfl⟩
 obtain ⟨fd, hfd⟩ : ∃ fd, Hid ((Go.Dr.ofL D.ls x.dev).isSome = fd) := ⟨_, rfl⟩
 rw [hy.out] at hbd hov ⊢
 rw [hfd.out]
 obtain ⟨ob, hob⟩ : ∃ ob, Hid (w2.heap.size = ob) := ⟨_, rfl⟩
 have hA : Hid (Blk (w2.alloc (.cells (gC Go.Dr.zeroL).toArray 36)) ob 36 (gC Go.Dr.zeroL)) := by rw [← hob.out]; exact Blk.new w2 _ _
 have hPy := Lib.hid (put_g y hA.out)
 have hS2a := hS2.out.next ((Below.refl _ w2).alloc (Nat.le_refl _) (.cells (gC Go.Dr.zeroL).toArray 36))
 have hobl : tb + 1 + 1 < ob := by rw [← hob.out]; exact hS2.out.bZ.lt
 obtain ⟨w3, hw3⟩ : ∃ w3, Hid ((w2.alloc (.cells (gC Go.Dr.zeroL).toArray 36)).setCells ob 0 (gC y) = w3) := ⟨_, rfl⟩
 have hS3 : Hid (StW w tb rr x w3) := by
  rw [← hw3.out]
  exact ⟨hS2a.bB.grown hPy.out.grw (fun e => by injection e with e; omega), hS2a.bG.grown hPy.out.grw (fun e => by injection e with e; omega), hS2a.bZ.grown hPy.out.grw (fun e => by injection e with e; omega), below_grown hS2a.bel hPy.out.grw hS2a.bel.size (by have := htb.out; omega)⟩
 have hO3 : Hid (Blk w3 ob 36 (gC y)) := by rw [← hw3.out]; exact hPy.out.blk
 have hrx := Lib.hid hS3.out.bG.range
 clear hS2a hS2 hA
 go_wp2_with (first
  | (rw [hob.out]; refine wpList_store_mid (by rfl) 36 (.tmp 7) (.tmp 30) (by rfl) ob 0 (gC y).toArray (by rfl) (by rfl) hPy.out.th hPy.out.inf hPy.out.one ?_; generalize hWq : World.setCells _ _ _ _ = Wq; obtain rfl : w3 = Wq := by { rw [← hWq]; exact hw3.out.symm }; clear hWq)
   | (refine wpList_load_mid (by rfl) 36 (.tmp 3) (by rfl) (tb + 1) 0 (by rfl) (gC x) _ hrx.out Tryz.underlying36 (by rfl) hgi.out ?_))
 refine (hvl.out w3).mono ?_
 rintro e w4 ⟨rfl, hb4⟩
 have hS4 := Lib.hid (hS3.out.next hb4)
 have hO4 := Lib.hid (hO3.out.below hb4 hO3.out.lt)
 clear hb4 hS3 hO3 hrx hw3 hPy
 rw [hf]
 have v3 := hS4.out.bG.at_ (i := 3) (x := .int .i64 x.vers) rfl
 have o3 := hO4.out.at_ (i := 3) (x := .int .i64 y.vers) rfl
 have hwy : IntKind.i64.wrap (y.vers + 1) = y.vers + 1 := IntWalk.i64_in _ ⟨by have := hbd.out; omega, by have := hbd.out; omega⟩
 have hy0 : 0 ≤ y.vers := hbd.out.1
 have hy1 : y.vers ≤ 1048576 := hbd.out.2
 have hne : (x.vers != y.vers + 1) = false := by have := hov.out; simp; omega
 clear hv hov hy hfd hbd
 have hlsl := Lib.hid (fun (z : Lst) => listing_slice1 z)
 go_upto_region 11 with (first
  | (refine wpList_buildSlice_run (by rfl) 31 0 #[] rfl #[] (by simp) (empty_lists _) ?_))
 clear v3 o3 hwy hy0 hy1 hne hO4
 obtain ⟨B0, hB0⟩ : ∃ B0, Hid (w4.heap.size = B0) := ⟨_, rfl⟩
 have hB0l : tb + 1 + 1 < B0 := by rw [← hB0.out]; exact hS4.out.bZ.lt
 have hwB : w.heap.size ≤ B0 := by have := htb.out; omega
 have hE : Hid (World.ownsRow (w4.alloc (.cells #[] 36)) B0 36 5 (.slice (some ⟨B0, 0, none⟩) 0 0) ([] : List Lst).length (gR [])) := by rw [← hB0.out]; exact own_newL w4
 have hS5 : Hid (StW w tb rr x (w4.alloc (.cells #[] 36))) := hS4.out.next ((Below.refl _ w4).alloc (Nat.le_refl _) _)
 have hbB : Hid (Below B0 w4 (w4.alloc (.cells #[] 36))) := by rw [← hB0.out]; exact (Below.refl _ w4).alloc (Nat.le_refl _) _
 rw [hB0.out]
 generalize World.alloc w4 _ = w5 at *
 clear hS4
 go_wp2_with fail
 go_loopw [9, 10, 11] (fun v dn i wr => ∃ (k : Nat) (d : Bool) (l : List Lst), k ≤ ln ∧ i = .int .i64 (k : Int) ∧ dn = .bool d ∧ l.length ≤ 2 * k ∧ Hid (l ++ Go.Dr.setGo x (D.ls.drop k) d = RES) ∧ Hid (World.ownsRow wr B0 36 5 v l.length (gR l)) ∧ Hid (StW w tb rr x wr) ∧ Hid (Below B0 w4 wr)) (fun _ _ i _ => ln - (intOf i).toNat)
 case atStart => exact ⟨0, false, [], Nat.zero_le _, rfl, rfl, Nat.le_refl _, hgo.out, hE, hS5, hbB⟩
 case round =>
  obtain ⟨k, d, l, hk9, rfl, rfl, hll, hI, hO, hSr, hbr⟩ := hrel
  clear hE hS5 hbB hgo
  by_cases hlt : k < ln
  · have hkl : k < D.ls.length := by have := hln.out; omega
    have hkz := List.getElem?_eq_getElem hkl
    obtain ⟨b, off, rfl, hbl, _, hoz, hrg0⟩ := GS.cells hgs.out hkz
    have hI' := hI.out
    rw [List.drop_eq_getElem_cons hkl, Go.Dr.setGo] at hI'
    obtain ⟨z, hz⟩ : ∃ z, D.ls[k] = z := ⟨_, rfl⟩
    rw [hz] at hI' hoz hrg0
    have hzr : Hid (∀ W, Below w.heap.size w W → W.rangeAt b (off + k * 5) (gC z)) := fun W hb j u hu => (hb.cell (p := ⟨b, off + k * 5 + j, none⟩) hbl).trans (hrg0 j u hu)
    have hzd : Hid (∀ W, Below w.heap.size w W → W.cell? ⟨b, off + k * 5, none⟩ = some (.int .i64 z.dev)) := fun W hb => by
     have := hzr.out W hb 0 (.int .i64 z.dev) rfl
     rwa [Nat.add_zero] at this
    have hxd : Hid (∀ W, StW w tb rr x W → W.cell? ⟨tb + 1, 0, none⟩ = some (.int .i64 x.dev)) := fun W h => h.bG.at_ (i := 0) rfl
    have hs1 : Hid (∀ W, StW w tb rr x W → W.cell? ⟨tb, 1, none⟩ = some (.slice (some ⟨b, off, none⟩) ln lc)) := fun W h => h.bB.at_ hr1.out
    have hll2 : Hid (l.length ≤ 2 * k) := hll
    have hkk : Hid (k ≤ 512) := by have := h512.out; have := hln.out; show _ ≤ _; omega
    have k0 : (0 : Int) ≤ (k : Int) := by omega
    have k1 : (k : Int) < (ln : Int) := by omega
    clear hI hkz hz hrg0 hll
    by_cases hle : x.dev ≤ z.dev
    · have hle' : decide (x.dev ≤ z.dev) = true := by simpa using hle
      by_cases heq : z.dev = x.dev
      · have hne : (z.dev != x.dev) = false := by simp [heq]
        rw [hle', decide_eq_true heq] at hI'
        clear hle heq
        cases d with
        | true =>
         have hSa := hSr; have hOa := hO; have hba := hbr
         clear hSr hO hbr
         have f1 := hs1.out _ hSa.out
         have f2 := hxd.out _ hSa.out
         have f3 := hzd.out _ hSa.out.bel
         go_wp2_with fail
         go_quiet (fail)
         have hSb := Lib.hid (hSa.out.drewN nq)
         have hOb := Lib.hid (Sl.owns_below hOa.out (Go.Mem.below_drewN _ nq _) (Nat.le_refl _))
         have hbb := Lib.hid (hba.out.trans (Go.Mem.below_drewN _ nq B0))
         clear f1 f2 f3 hSa hOa hba
         generalize World.drewN wr nq = w6 at *
         go_wp2_with fail
         have f1 := hs1.out _ hSb.out
         have f2 := hxd.out _ hSb.out
         have f3 := hzd.out _ hSb.out.bel
         go_quiet (fail)
         have hSd := Lib.hid (hSb.out.drewN nq)
         have hOd := Lib.hid (Sl.owns_below hOb.out (Go.Mem.below_drewN _ nq _) (Nat.le_refl _))
         have hbd := Lib.hid (hbb.out.trans (Go.Mem.below_drewN _ nq B0))
         clear f1 f2 f3 hSb hOb hbb
         generalize World.drewN w6 nq = w8 at *
         go_wp2_with fail
         go_roundw
         case rel => exact ⟨k + 1, true, l, by omega, by go_num, rfl, by have := hll2.out; omega, by show _ = _; rw [← hI']; simp, hOd, hSd, hbd⟩
         case measure => simp [intOf]; omega
        | false =>
         have hSa := hSr; have hOa := hO; have hba := hbr
         clear hSr hO hbr
         have f1 := hs1.out _ hSa.out
         have f2 := hxd.out _ hSa.out
         have f3 := hzd.out _ hSa.out.bel
         go_wp2_with fail
         go_quiet (fail)
         have hSb := Lib.hid (hSa.out.drewN nq)
         have hOb := Lib.hid (Sl.owns_below hOa.out (Go.Mem.below_drewN _ nq _) (Nat.le_refl _))
         have hbb := Lib.hid (hba.out.trans (Go.Mem.below_drewN _ nq B0))
         clear f1 f2 f3 hSa hOa hba
         generalize World.drewN wr nq = w6 at *
         obtain ⟨vc, w7, hapc', hOc', hbqc⟩ := append_l1 (w0 := w6) hOb.out (hB0.out ▸ hbb.out.size) (Below.refl B0 w6) x (by have := hll2.out; have := hkk.out; omega)
         have hapc := Lib.hid hapc'; have hOc := Lib.hid hOc'; have hbc := Lib.hid (hbb.out.trans hbqc); have hSc := Lib.hid (hSb.out.nextB hbqc hB0l hwB)
         clear hapc' hOc' hbqc
         have hrx := Lib.hid hSb.out.bG.range
         go_wp2_with (first
          | (refine wpList_load_mid (by rfl) 36 (.tmp 3) (by rfl) (tb + 1) 0 (by rfl) (gC x) _ hrx.out Tryz.underlying36 (by rfl) hgi.out ?_)
           | (refine wpList_buildSlice_run (by rfl) 31 1 _ rfl #[(0, .agg (gC x).toArray)] (by simp only [List.map_toArray, List.map_cons, List.map_nil]; rfl) (hlsl.out x _) ?_)
           | (at_builtin; refine Lib.wpList_append_run _ rfl _ _ _ _ rfl _ _ rfl rfl _ _ (hapc.out _) ?_))
         clear hSb hOb hbb hrx hapc
         have f1 := hs1.out _ hSc.out
         have f2 := hxd.out _ hSc.out
         have f3 := hzd.out _ hSc.out.bel
         go_quiet (fail)
         have hSd := Lib.hid (hSc.out.drewN nq)
         have hOd := Lib.hid (Sl.owns_below hOc.out (Go.Mem.below_drewN _ nq _) (Nat.le_refl _))
         have hbd := Lib.hid (hbc.out.trans (Go.Mem.below_drewN _ nq B0))
         clear f1 f2 f3 hSc hOc hbc
         generalize World.drewN w7 nq = w8 at *
         go_wp2_with fail
         go_roundw
         case rel => exact ⟨k + 1, true, l ++ [x], by omega, by go_num, rfl, by have := hll2.out; simp only [List.length_append, List.length_cons, List.length_nil]; omega, by show _ = _; rw [← hI']; simp, hOd, hSd, hbd⟩
         case measure => simp [intOf]; omega
      · have hne : (z.dev != x.dev) = true := by simp [heq]
        rw [hle', decide_eq_false heq] at hI'
        clear hle heq
        cases d with
        | true =>
         have hSa := hSr; have hOa := hO; have hba := hbr
         clear hSr hO hbr
         have f1 := hs1.out _ hSa.out
         have f2 := hxd.out _ hSa.out
         have f3 := hzd.out _ hSa.out.bel
         go_wp2_with fail
         go_quiet (fail)
         have hSb := Lib.hid (hSa.out.drewN nq)
         have hOb := Lib.hid (Sl.owns_below hOa.out (Go.Mem.below_drewN _ nq _) (Nat.le_refl _))
         have hbb := Lib.hid (hba.out.trans (Go.Mem.below_drewN _ nq B0))
         clear f1 f2 f3 hSa hOa hba
         generalize World.drewN wr nq = w6 at *
         go_wp2_with fail
         have f1 := hs1.out _ hSb.out
         have f2 := hxd.out _ hSb.out
         have f3 := hzd.out _ hSb.out.bel
         go_quiet (fail)
         have hSd := Lib.hid (hSb.out.drewN nq)
         have hOd := Lib.hid (Sl.owns_below hOb.out (Go.Mem.below_drewN _ nq _) (Nat.le_refl _))
         have hbd := Lib.hid (hbb.out.trans (Go.Mem.below_drewN _ nq B0))
         clear f1 f2 f3 hSb hOb hbb
         generalize World.drewN w6 nq = w8 at *
         have f1 := hs1.out _ hSd.out
         obtain ⟨ve, w9, hape', hOe', hbqe⟩ := append_l1 (w0 := w8) hOd.out (hB0.out ▸ hbd.out.size) (Below.refl B0 w8) z (by have := hll2.out; have := hkk.out; omega)
         have hape := Lib.hid hape'; have hOe := Lib.hid hOe'; have hbe := Lib.hid (hbd.out.trans hbqe); have hSe := Lib.hid (hSd.out.nextB hbqe hB0l hwB)
         clear hape' hOe' hbqe
         have hrz := Lib.hid (hzr.out w8 hSd.out.bel)
         have hgz := Lib.hid (show (Tryz.prog.info? 36).map (·.size) = some (gC z).length from sizeG)
         go_wp2_with (first
          | (refine wpList_load_mid (by rfl) 36 (.tmp 82) (by rfl) b (off + k * 5) (by rfl) (gC z) _ hrz.out Tryz.underlying36 (by rfl) hgz.out ?_)
           | (refine wpList_buildSlice_run (by rfl) 31 1 _ rfl #[(0, .agg (gC z).toArray)] (by simp only [List.map_toArray, List.map_cons, List.map_nil]; rfl) (hlsl.out z _) ?_)
           | (at_builtin; refine Lib.wpList_append_run _ rfl _ _ _ _ rfl _ _ rfl rfl _ _ (hape.out _) ?_))
         go_roundw
         case rel => exact ⟨k + 1, true, l ++ [z], by omega, by go_num, rfl, by have := hll2.out; simp only [List.length_append, List.length_cons, List.length_nil]; omega, by show _ = _; rw [← hI']; simp, hOe, hSe, hbe⟩
         case measure => simp [intOf]; omega
        | false =>
         have hSa := hSr; have hOa := hO; have hba := hbr
         clear hSr hO hbr
         have f1 := hs1.out _ hSa.out
         have f2 := hxd.out _ hSa.out
         have f3 := hzd.out _ hSa.out.bel
         go_wp2_with fail
         go_quiet (fail)
         have hSb := Lib.hid (hSa.out.drewN nq)
         have hOb := Lib.hid (Sl.owns_below hOa.out (Go.Mem.below_drewN _ nq _) (Nat.le_refl _))
         have hbb := Lib.hid (hba.out.trans (Go.Mem.below_drewN _ nq B0))
         clear f1 f2 f3 hSa hOa hba
         generalize World.drewN wr nq = w6 at *
         obtain ⟨vc, w7, hapc', hOc', hbqc⟩ := append_l1 (w0 := w6) hOb.out (hB0.out ▸ hbb.out.size) (Below.refl B0 w6) x (by have := hll2.out; have := hkk.out; omega)
         have hapc := Lib.hid hapc'; have hOc := Lib.hid hOc'; have hbc := Lib.hid (hbb.out.trans hbqc); have hSc := Lib.hid (hSb.out.nextB hbqc hB0l hwB)
         clear hapc' hOc' hbqc
         have hrx := Lib.hid hSb.out.bG.range
         go_wp2_with (first
          | (refine wpList_load_mid (by rfl) 36 (.tmp 3) (by rfl) (tb + 1) 0 (by rfl) (gC x) _ hrx.out Tryz.underlying36 (by rfl) hgi.out ?_)
           | (refine wpList_buildSlice_run (by rfl) 31 1 _ rfl #[(0, .agg (gC x).toArray)] (by simp only [List.map_toArray, List.map_cons, List.map_nil]; rfl) (hlsl.out x _) ?_)
           | (at_builtin; refine Lib.wpList_append_run _ rfl _ _ _ _ rfl _ _ rfl rfl _ _ (hapc.out _) ?_))
         clear hSb hOb hbb hrx hapc
         have f1 := hs1.out _ hSc.out
         have f2 := hxd.out _ hSc.out
         have f3 := hzd.out _ hSc.out.bel
         go_quiet (fail)
         have hSd := Lib.hid (hSc.out.drewN nq)
         have hOd := Lib.hid (Sl.owns_below hOc.out (Go.Mem.below_drewN _ nq _) (Nat.le_refl _))
         have hbd := Lib.hid (hbc.out.trans (Go.Mem.below_drewN _ nq B0))
         clear f1 f2 f3 hSc hOc hbc
         generalize World.drewN w7 nq = w8 at *
         have f1 := hs1.out _ hSd.out
         obtain ⟨ve, w9, hape', hOe', hbqe⟩ := append_l1 (w0 := w8) hOd.out (hB0.out ▸ hbd.out.size) (Below.refl B0 w8) z (by rw [List.length_append]; have := hll2.out; have := hkk.out; simp; omega)
         have hape := Lib.hid hape'; have hOe := Lib.hid hOe'; have hbe := Lib.hid (hbd.out.trans hbqe); have hSe := Lib.hid (hSd.out.nextB hbqe hB0l hwB)
         clear hape' hOe' hbqe
         have hrz := Lib.hid (hzr.out w8 hSd.out.bel)
         have hgz := Lib.hid (show (Tryz.prog.info? 36).map (·.size) = some (gC z).length from sizeG)
         go_wp2_with (first
          | (refine wpList_load_mid (by rfl) 36 (.tmp 82) (by rfl) b (off + k * 5) (by rfl) (gC z) _ hrz.out Tryz.underlying36 (by rfl) hgz.out ?_)
           | (refine wpList_buildSlice_run (by rfl) 31 1 _ rfl #[(0, .agg (gC z).toArray)] (by simp only [List.map_toArray, List.map_cons, List.map_nil]; rfl) (hlsl.out z _) ?_)
           | (at_builtin; refine Lib.wpList_append_run _ rfl _ _ _ _ rfl _ _ rfl rfl _ _ (hape.out _) ?_))
         go_roundw
         case rel => exact ⟨k + 1, true, l ++ [x] ++ [z], by omega, by go_num, rfl, by have := hll2.out; simp only [List.length_append, List.length_cons, List.length_nil]; omega, by show _ = _; rw [← hI']; simp, hOe, hSe, hbe⟩
         case measure => simp [intOf]; omega
    · have hle' : decide (x.dev ≤ z.dev) = false := by simpa using hle
      have heq : ¬ z.dev = x.dev := by omega
      have hne : (z.dev != x.dev) = true := by simp [heq]
      rw [hle', decide_eq_false heq] at hI'
      clear hle heq
      cases d with
      | true =>
       have hSa := hSr; have hOa := hO; have hba := hbr
       clear hSr hO hbr
       have f1 := hs1.out _ hSa.out
       have f2 := hxd.out _ hSa.out
       have f3 := hzd.out _ hSa.out.bel
       go_wp2_with fail
       go_quiet (fail)
       have hSb := Lib.hid (hSa.out.drewN nq)
       have hOb := Lib.hid (Sl.owns_below hOa.out (Go.Mem.below_drewN _ nq _) (Nat.le_refl _))
       have hbb := Lib.hid (hba.out.trans (Go.Mem.below_drewN _ nq B0))
       clear f1 f2 f3 hSa hOa hba
       generalize World.drewN wr nq = w6 at *
       go_wp2_with fail
       have f1 := hs1.out _ hSb.out
       have f2 := hxd.out _ hSb.out
       have f3 := hzd.out _ hSb.out.bel
       go_quiet (fail)
       have hSd := Lib.hid (hSb.out.drewN nq)
       have hOd := Lib.hid (Sl.owns_below hOb.out (Go.Mem.below_drewN _ nq _) (Nat.le_refl _))
       have hbd := Lib.hid (hbb.out.trans (Go.Mem.below_drewN _ nq B0))
       clear f1 f2 f3 hSb hOb hbb
       generalize World.drewN w6 nq = w8 at *
       have f1 := hs1.out _ hSd.out
       obtain ⟨ve, w9, hape', hOe', hbqe⟩ := append_l1 (w0 := w8) hOd.out (hB0.out ▸ hbd.out.size) (Below.refl B0 w8) z (by have := hll2.out; have := hkk.out; omega)
       have hape := Lib.hid hape'; have hOe := Lib.hid hOe'; have hbe := Lib.hid (hbd.out.trans hbqe); have hSe := Lib.hid (hSd.out.nextB hbqe hB0l hwB)
       clear hape' hOe' hbqe
       have hrz := Lib.hid (hzr.out w8 hSd.out.bel)
       have hgz := Lib.hid (show (Tryz.prog.info? 36).map (·.size) = some (gC z).length from sizeG)
       go_wp2_with (first
        | (refine wpList_load_mid (by rfl) 36 (.tmp 82) (by rfl) b (off + k * 5) (by rfl) (gC z) _ hrz.out Tryz.underlying36 (by rfl) hgz.out ?_)
         | (refine wpList_buildSlice_run (by rfl) 31 1 _ rfl #[(0, .agg (gC z).toArray)] (by simp only [List.map_toArray, List.map_cons, List.map_nil]; rfl) (hlsl.out z _) ?_)
         | (at_builtin; refine Lib.wpList_append_run _ rfl _ _ _ _ rfl _ _ rfl rfl _ _ (hape.out _) ?_))
       go_roundw
       case rel => exact ⟨k + 1, true, l ++ [z], by omega, by go_num, rfl, by have := hll2.out; simp only [List.length_append, List.length_cons, List.length_nil]; omega, by show _ = _; rw [← hI']; simp, hOe, hSe, hbe⟩
       case measure => simp [intOf]; omega
      | false =>
       have hSa := hSr; have hOa := hO; have hba := hbr
       clear hSr hO hbr
       have f1 := hs1.out _ hSa.out
       have f2 := hxd.out _ hSa.out
       have f3 := hzd.out _ hSa.out.bel
       go_wp2_with fail
       go_quiet (fail)
       have hSb := Lib.hid (hSa.out.drewN nq)
       have hOb := Lib.hid (Sl.owns_below hOa.out (Go.Mem.below_drewN _ nq _) (Nat.le_refl _))
       have hbb := Lib.hid (hba.out.trans (Go.Mem.below_drewN _ nq B0))
       clear f1 f2 f3 hSa hOa hba
       generalize World.drewN wr nq = w6 at *
       go_wp2_with fail
       have f1 := hs1.out _ hSb.out
       have f2 := hxd.out _ hSb.out
       have f3 := hzd.out _ hSb.out.bel
       go_quiet (fail)
       have hSd := Lib.hid (hSb.out.drewN nq)
       have hOd := Lib.hid (Sl.owns_below hOb.out (Go.Mem.below_drewN _ nq _) (Nat.le_refl _))
       have hbd := Lib.hid (hbb.out.trans (Go.Mem.below_drewN _ nq B0))
       clear f1 f2 f3 hSb hOb hbb
       generalize World.drewN w6 nq = w8 at *
       have f1 := hs1.out _ hSd.out
       obtain ⟨ve, w9, hape', hOe', hbqe⟩ := append_l1 (w0 := w8) hOd.out (hB0.out ▸ hbd.out.size) (Below.refl B0 w8) z (by have := hll2.out; have := hkk.out; omega)
       have hape := Lib.hid hape'; have hOe := Lib.hid hOe'; have hbe := Lib.hid (hbd.out.trans hbqe); have hSe := Lib.hid (hSd.out.nextB hbqe hB0l hwB)
       clear hape' hOe' hbqe
       have hrz := Lib.hid (hzr.out w8 hSd.out.bel)
       have hgz := Lib.hid (show (Tryz.prog.info? 36).map (·.size) = some (gC z).length from sizeG)
       go_wp2_with (first
        | (refine wpList_load_mid (by rfl) 36 (.tmp 82) (by rfl) b (off + k * 5) (by rfl) (gC z) _ hrz.out Tryz.underlying36 (by rfl) hgz.out ?_)
         | (refine wpList_buildSlice_run (by rfl) 31 1 _ rfl #[(0, .agg (gC z).toArray)] (by simp only [List.map_toArray, List.map_cons, List.map_nil]; rfl) (hlsl.out z _) ?_)
         | (at_builtin; refine Lib.wpList_append_run _ rfl _ _ _ _ rfl _ _ rfl rfl _ _ (hape.out _) ?_))
       go_roundw
       case rel => exact ⟨k + 1, false, l ++ [z], by omega, by go_num, rfl, by have := hll2.out; simp only [List.length_append, List.length_cons, List.length_nil]; omega, by show _ = _; rw [← hI']; simp, hOe, hSe, hbe⟩
       case measure => simp [intOf]; omega
  · obtain rfl : k = ln := by omega
    have hRl : Hid (l ++ (if d then [] else [x]) = RES) := by
     have := hI.out
     rw [List.drop_eq_nil_of_le (by rw [hln.out]; exact Nat.le_refl _), Go.Dr.setGo] at this
     exact this
    clear hI
    have hs1 := hSr.out.bB.at_ hr1.out
    cases d with
    | true =>
     rw [if_pos rfl, List.append_nil] at hRl
     have hOz := hO; have hSz := hSr; have hbz := hbr
     clear hs1 hO hSr hbr
     have hRl' := hRl.out
     subst hRl'
     have hn2l : Hid (l.length = l.length) := rfl
     obtain ⟨n2, hn2⟩ : ∃ n, Hid (l.length = n) := ⟨_, rfl⟩
     rw [hn2.out] at hOz
     obtain ⟨a2, c2, rfl, hG2⟩ := own_gs hOz.out hn2.out hokR.out
     have s1 := hSz.out.bB.at_ hr1.out
     have f1 := hSz.out.bB.frozen 1
     have htbw := htb.out
     go_upto_region 22 with fail
     generalize hWE : World.setCell _ _ _ = WE
     have hg : World.grownBy wr WE (some tb) := by rw [← hWE]; exact grown_set (World.grownBy.refl wr _) (.inl rfl) _
     have hBE : Hid (Blk WE tb 34 (dirC D.priv a2 n2 c2 ra rn rc)) := by show Blk _ _ _ _; rw [← hWE, ← hrs.out]; exact hSz.out.bB.set 1 _
     have hZE : Hid (Blk WE (tb + 1 + 1) 34 (dirC 0 none 0 0 none 0 0)) := hSz.out.bZ.grown hg (fun e => by injection e with e; omega)
     have hbE : Hid (Below w.heap.size w WE) := by show Below _ _ _; rw [← hWE]; exact hSz.out.bel.setCell (p := ⟨tb, 1, none⟩) (by show w.heap.size ≤ tb; omega) _
     have hGE : GS (fun b => B0 ≤ b) WE a2 n2 c2 l := hG2.keep (Keeps.grown hg (fun b hb e => by omega))
     have hDM : DM (fun _ => True) WE ⟨D.priv, l, D.rs⟩ a2 n2 c2 ra rn rc := ⟨hpr.out, hGE.imp (fun _ _ _ => trivial), (hqs.out.below hbE.out).imp (fun _ _ _ => trivial)⟩
     have htk := Lib.hid (r35tick_any (fun _ => True) ⟨D.priv, l, D.rs⟩ a2 n2 c2 ra rn rc WE (HT'.out.below hbE.out) hDM)
     have hGE' := Lib.hid hGE
     rw [← hset.out] at htk
     have e0 := hBE.out.at_ (i := 0) (x := .int .i64 D.priv) rfl
     have e1 := hBE.out.at_ (i := 1) (x := .slice a2 n2 c2) rfl
     have e2 := hBE.out.at_ (i := 2) (x := .slice ra rn rc) rfl
     clear hGE hDM hBE hG2 hg hWE s1 f1 hOz hSz hbz
     go_wp2_with fail
     refine htk.out.mono ?_
     rintro e wT (⟨h0, ra2, rn2, rc2, rfl, hQ, hbT⟩ | ⟨h1, rfl, hbT⟩)
     · have hone : ∀ u ∈ dirC (Go.Dr.setD 4 D x).1.priv a2 n2 c2 ra2 rn2 rc2, u.oneCell' = true := by intro u hu; simp only [dirC, List.mem_cons, List.not_mem_nil, or_false] at hu; rcases hu with rfl | rfl | rfl <;> rfl
       obtain ⟨W9, hP⟩ := put_row (ty := 34) (hZE.out.below hbT hZE.out.lt) (x := dirC (Go.Dr.setD 4 D x).1.priv a2 n2 c2 ra2 rn2 rc2) rfl sizeDr hone
       have hbW := hbE.out.trans (hbT.mono hbE.out.size)
       have hG9 : GS (fun b => w.heap.size ≤ b) W9 a2 n2 c2 (Go.Dr.setD 4 D x).1.ls := by
        rw [hls.out h0]
        exact ((hGE'.out.below hbT).keep (Keeps.grown hP.grown (fun b hb e => by omega))).imp (fun b _ hb => by omega)
       have hQ9 : QS (fun b => w.heap.size ≤ b) W9 ra2 rn2 rc2 (Go.Dr.setD 4 D x).1.rs := (hQ.keep (Keeps.grown hP.grown (fun b hb e => by have := hZE.out.lt; omega))).imp (fun b _ hb => by have := hbE.out.size; omega)
       have hfin : Hid (X (.returned (.tuple #[.agg (dirC (Go.Dr.setD 4 D x).1.priv a2 n2 c2 ra2 rn2 rc2).toArray, .int .i64 0])) W9) := hX.out _ _ (.inl ⟨h0, a2, n2, c2, ra2, rn2, rc2, rfl, ⟨by rw [hpv9.out h0]; exact hpr.out, hG9, hQ9⟩, below_grown hbW hP.grown hbW.size (by omega)⟩)
       have hP' := Lib.hid hP
       have hbk := Lib.hid hP.blk
       have hzi : Hid ((Tryz.prog.info? 34).map (·.size) = some (dirC (Go.Dr.setD 4 D x).1.priv a2 n2 c2 ra2 rn2 rc2).length) := sizeDr
       obtain ⟨r9, hr9⟩ : ∃ r, Hid (dirC (Go.Dr.setD 4 D x).1.priv a2 n2 c2 ra2 rn2 rc2 = r) := ⟨_, rfl⟩
       rw [hr9.out] at hP' hbk hzi hfin ⊢
       clear hP hQ hQ9 hG9 hone hGE' htk hbT hbW hX e0 e1 e2
       go_wp2_with (first
        | (refine wpList_store_mid (by rfl) 34 (.tmp 4) (.tmp 96) (by rfl) (tb + 1 + 1) 0 r9.toArray (by rfl) (by rfl) hP'.out.there hP'.out.info (by simpa using hP'.out.one) ?_
           generalize hWq : World.setCells _ _ _ _ = Wa
           obtain rfl : W9 = Wa := by rw [← hWq]; exact hP'.out.eq
           clear hWq))
       refine ret_cell_tmp (p := 4) (u := 5) rfl hbk.out Tryz.underlying34 rfl hzi.out rfl rfl rfl ?_
       exact hfin.out
     · obtain ⟨W9, hP⟩ := put_row (ty := 34) (hZE.out.below hbT hZE.out.lt) (x := dirC 0 none 0 0 none 0 0) rfl sizeDr (by intro u hu; simp only [dirC, List.mem_cons, List.not_mem_nil, or_false] at hu; rcases hu with rfl | rfl | rfl <;> rfl)
       have hbW := hbE.out.trans (hbT.mono hbE.out.size)
       have hfin : Hid (X (.returned (.tuple #[.agg (dirC 0 none 0 0 none 0 0).toArray, .int .i64 (Go.Dr.setD 4 D x).2])) W9) := hX.out _ _ (.inr ⟨h1, rfl, below_grown hbW hP.grown hbW.size (by omega)⟩)
       have hP' := Lib.hid hP
       have hbk := Lib.hid hP.blk
       have hzi : Hid ((Tryz.prog.info? 34).map (·.size) = some (dirC 0 none 0 0 none 0 0).length) := sizeDr
       obtain ⟨r9, hr9⟩ : ∃ r, Hid (dirC 0 none 0 0 none 0 0 = r) := ⟨_, rfl⟩
       obtain ⟨cd, hcd⟩ : ∃ c, Hid ((Go.Dr.setD 4 D x).2 = c) := ⟨_, rfl⟩
       rw [hr9.out, hcd.out] at hfin ⊢
       rw [hr9.out] at hP' hbk hzi
       clear hP hGE' htk hbT hbW hX h1 e0 e1 e2
       go_wp2_with (first
        | (refine wpList_store_mid (by rfl) 34 (.tmp 4) (.tmp 96) (by rfl) (tb + 1 + 1) 0 r9.toArray (by rfl) (by rfl) hP'.out.there hP'.out.info (by simpa using hP'.out.one) ?_
           generalize hWq : World.setCells _ _ _ _ = Wa
           obtain rfl : W9 = Wa := by rw [← hWq]; exact hP'.out.eq
           clear hWq))
       refine ret_cell_tmp (p := 4) (u := 5) rfl hbk.out Tryz.underlying34 rfl hzi.out rfl rfl rfl ?_
       exact hfin.out
    | false =>
     rw [if_neg (by simp)] at hRl
     obtain ⟨vz, w9, hapz', hOz', hbqz⟩ := append_l1 (w0 := wr) hO.out (hB0.out ▸ hbr.out.size) (Below.refl B0 wr) x (by have := h512.out; have := hln.out; omega)
     have hapz := Lib.hid hapz'; have hOz := Lib.hid hOz'; have hbz := Lib.hid (hbr.out.trans hbqz); have hSz := Lib.hid (hSr.out.nextB hbqz hB0l hwB)
     clear hapz' hOz' hbqz
     have hrx := Lib.hid hSr.out.bG.range
     have hRl' := hRl.out
     rw [hRl'] at hOz
     go_upto_region 21 with (first
      | (refine wpList_load_mid (by rfl) 36 (.tmp 3) (by rfl) (tb + 1) 0 (by rfl) (gC x) _ hrx.out Tryz.underlying36 (by rfl) hgi.out ?_)
       | (refine wpList_buildSlice_run (by rfl) 31 1 _ rfl #[(0, .agg (gC x).toArray)] (by simp only [List.map_toArray, List.map_cons, List.map_nil]; rfl) (hlsl.out x _) ?_)
       | (at_builtin; refine Lib.wpList_append_run _ rfl _ _ _ _ rfl _ _ rfl rfl _ _ (hapz.out _) ?_))
     clear hapz hrx hRl' hRl hO hSr hbr hs1
     have hn2l : Hid (RES.length = RES.length) := rfl
     obtain ⟨n2, hn2⟩ : ∃ n, Hid (RES.length = n) := ⟨_, rfl⟩
     rw [hn2.out] at hOz
     obtain ⟨a2, c2, rfl, hG2⟩ := own_gs hOz.out hn2.out hokR.out
     have s1 := hSz.out.bB.at_ hr1.out
     have f1 := hSz.out.bB.frozen 1
     have htbw := htb.out
     go_upto_region 22 with fail
     generalize hWE : World.setCell _ _ _ = WE
     have hg : World.grownBy w9 WE (some tb) := by rw [← hWE]; exact grown_set (World.grownBy.refl w9 _) (.inl rfl) _
     have hBE : Hid (Blk WE tb 34 (dirC D.priv a2 n2 c2 ra rn rc)) := by show Blk _ _ _ _; rw [← hWE, ← hrs.out]; exact hSz.out.bB.set 1 _
     have hZE : Hid (Blk WE (tb + 1 + 1) 34 (dirC 0 none 0 0 none 0 0)) := hSz.out.bZ.grown hg (fun e => by injection e with e; omega)
     have hbE : Hid (Below w.heap.size w WE) := by show Below _ _ _; rw [← hWE]; exact hSz.out.bel.setCell (p := ⟨tb, 1, none⟩) (by show w.heap.size ≤ tb; omega) _
     have hGE : GS (fun b => B0 ≤ b) WE a2 n2 c2 RES := hG2.keep (Keeps.grown hg (fun b hb e => by omega))
     have hDM : DM (fun _ => True) WE ⟨D.priv, RES, D.rs⟩ a2 n2 c2 ra rn rc := ⟨hpr.out, hGE.imp (fun _ _ _ => trivial), (hqs.out.below hbE.out).imp (fun _ _ _ => trivial)⟩
     have htk := Lib.hid (r35tick_any (fun _ => True) ⟨D.priv, RES, D.rs⟩ a2 n2 c2 ra rn rc WE (HT'.out.below hbE.out) hDM)
     have hGE' := Lib.hid hGE
     rw [← hset.out] at htk
     have e0 := hBE.out.at_ (i := 0) (x := .int .i64 D.priv) rfl
     have e1 := hBE.out.at_ (i := 1) (x := .slice a2 n2 c2) rfl
     have e2 := hBE.out.at_ (i := 2) (x := .slice ra rn rc) rfl
     clear hGE hDM hBE hG2 hg hWE s1 f1 hOz hSz hbz
     go_wp2_with fail
     refine htk.out.mono ?_
     rintro e wT (⟨h0, ra2, rn2, rc2, rfl, hQ, hbT⟩ | ⟨h1, rfl, hbT⟩)
     · have hone : ∀ u ∈ dirC (Go.Dr.setD 4 D x).1.priv a2 n2 c2 ra2 rn2 rc2, u.oneCell' = true := by intro u hu; simp only [dirC, List.mem_cons, List.not_mem_nil, or_false] at hu; rcases hu with rfl | rfl | rfl <;> rfl
       obtain ⟨W9, hP⟩ := put_row (ty := 34) (hZE.out.below hbT hZE.out.lt) (x := dirC (Go.Dr.setD 4 D x).1.priv a2 n2 c2 ra2 rn2 rc2) rfl sizeDr hone
       have hbW := hbE.out.trans (hbT.mono hbE.out.size)
       have hG9 : GS (fun b => w.heap.size ≤ b) W9 a2 n2 c2 (Go.Dr.setD 4 D x).1.ls := by
        rw [hls.out h0]
        exact ((hGE'.out.below hbT).keep (Keeps.grown hP.grown (fun b hb e => by omega))).imp (fun b _ hb => by omega)
       have hQ9 : QS (fun b => w.heap.size ≤ b) W9 ra2 rn2 rc2 (Go.Dr.setD 4 D x).1.rs := (hQ.keep (Keeps.grown hP.grown (fun b hb e => by have := hZE.out.lt; omega))).imp (fun b _ hb => by have := hbE.out.size; omega)
       have hfin : Hid (X (.returned (.tuple #[.agg (dirC (Go.Dr.setD 4 D x).1.priv a2 n2 c2 ra2 rn2 rc2).toArray, .int .i64 0])) W9) := hX.out _ _ (.inl ⟨h0, a2, n2, c2, ra2, rn2, rc2, rfl, ⟨by rw [hpv9.out h0]; exact hpr.out, hG9, hQ9⟩, below_grown hbW hP.grown hbW.size (by omega)⟩)
       have hP' := Lib.hid hP
       have hbk := Lib.hid hP.blk
       have hzi : Hid ((Tryz.prog.info? 34).map (·.size) = some (dirC (Go.Dr.setD 4 D x).1.priv a2 n2 c2 ra2 rn2 rc2).length) := sizeDr
       obtain ⟨r9, hr9⟩ : ∃ r, Hid (dirC (Go.Dr.setD 4 D x).1.priv a2 n2 c2 ra2 rn2 rc2 = r) := ⟨_, rfl⟩
       rw [hr9.out] at hP' hbk hzi hfin ⊢
       clear hP hQ hQ9 hG9 hone hGE' htk hbT hbW hX e0 e1 e2
       go_wp2_with (first
        | (refine wpList_store_mid (by rfl) 34 (.tmp 4) (.tmp 96) (by rfl) (tb + 1 + 1) 0 r9.toArray (by rfl) (by rfl) hP'.out.there hP'.out.info (by simpa using hP'.out.one) ?_
           generalize hWq : World.setCells _ _ _ _ = Wa
           obtain rfl : W9 = Wa := by rw [← hWq]; exact hP'.out.eq
           clear hWq))
       refine ret_cell_tmp (p := 4) (u := 5) rfl hbk.out Tryz.underlying34 rfl hzi.out rfl rfl rfl ?_
       exact hfin.out
     · obtain ⟨W9, hP⟩ := put_row (ty := 34) (hZE.out.below hbT hZE.out.lt) (x := dirC 0 none 0 0 none 0 0) rfl sizeDr (by intro u hu; simp only [dirC, List.mem_cons, List.not_mem_nil, or_false] at hu; rcases hu with rfl | rfl | rfl <;> rfl)
       have hbW := hbE.out.trans (hbT.mono hbE.out.size)
       have hfin : Hid (X (.returned (.tuple #[.agg (dirC 0 none 0 0 none 0 0).toArray, .int .i64 (Go.Dr.setD 4 D x).2])) W9) := hX.out _ _ (.inr ⟨h1, rfl, below_grown hbW hP.grown hbW.size (by omega)⟩)
       have hP' := Lib.hid hP
       have hbk := Lib.hid hP.blk
       have hzi : Hid ((Tryz.prog.info? 34).map (·.size) = some (dirC 0 none 0 0 none 0 0).length) := sizeDr
       obtain ⟨r9, hr9⟩ : ∃ r, Hid (dirC 0 none 0 0 none 0 0 = r) := ⟨_, rfl⟩
       obtain ⟨cd, hcd⟩ : ∃ c, Hid ((Go.Dr.setD 4 D x).2 = c) := ⟨_, rfl⟩
       rw [hr9.out, hcd.out] at hfin ⊢
       rw [hr9.out] at hP' hbk hzi
       clear hP hGE' htk hbT hbW hX h1 e0 e1 e2
       go_wp2_with (first
        | (refine wpList_store_mid (by rfl) 34 (.tmp 4) (.tmp 96) (by rfl) (tb + 1 + 1) 0 r9.toArray (by rfl) (by rfl) hP'.out.there hP'.out.info (by simpa using hP'.out.one) ?_
           generalize hWq : World.setCells _ _ _ _ = Wa
           obtain rfl : W9 = Wa := by rw [← hWq]; exact hP'.out.eq
           clear hWq))
       refine ret_cell_tmp (p := 4) (u := 5) rfl hbk.out Tryz.underlying34 rfl hzi.out rfl rfl rfl ?_
       exact hfin.out

theorem r35set_any (K : Nat → Prop) (D : Dir) (la : Option Addr) (ln lc : Nat) (ra : Option Addr) (rn rc : Nat) (x : Lst) (hx : OkG x) (w : World) (HT : Tabs w) (H : DM K w D la ln lc ra rn rc) :
 Calls Tryz.prog 18 #[.agg (dirC D.priv la ln lc ra rn rc).toArray, .agg (gC x).toArray] w (SetPost (Go.Dr.setD 4 D x) w) := by
 cases hk : keyOk D.priv with
 | false =>
  have e : Go.Dr.setD 4 D x = (Go.Dr.zeroDir, 50) := by unfold Go.Dr.setD; rw [if_neg (by rw [hk]; simp)]
  rw [e]
  exact (r35set_key K D la ln lc ra rn rc x hx w HT H hk).mono (fun e w' h => .inr ⟨by simp, h.1, h.2⟩)
 | true =>
  cases hc : Go.Dr.chkL D.ls with
  | false =>
   have e : Go.Dr.setD 4 D x = (Go.Dr.zeroDir, 350) := by unfold Go.Dr.setD; rw [if_pos hk, if_neg (by rw [hc]; simp)]
   rw [e]
   exact (r35set_chk K D la ln lc ra rn rc x hx w HT H hk hc).mono (fun e w' h => .inr ⟨by simp, h.1, h.2⟩)
  | true =>
   cases hf : Go.Dr.fitsB x with
   | false =>
    have e : Go.Dr.setD 4 D x = (Go.Dr.zeroDir, 350) := by unfold Go.Dr.setD; rw [if_pos hk, if_pos hc, if_neg (by rw [hf]; simp)]
    rw [e]
    exact (r35set_unfit K D la ln lc ra rn rc x hx w HT H hk hc hf).mono (fun e w' h => .inr ⟨by simp, h.1, h.2⟩)
   | true =>
    by_cases hv : x.vers = Go.Dr.oldV D.ls x.dev + 1
    · exact r35set_ok K D la ln lc ra rn rc x hx w HT H hk hc hf hv
    · have e : Go.Dr.setD 4 D x = (Go.Dr.zeroDir, 350) := by unfold Go.Dr.setD; rw [if_pos hk, if_pos hc, if_neg (by rw [hf, decide_eq_false hv]; simp)]
      rw [e]
      exact (r35set_old K D la ln lc ra rn rc x hx w HT H hk hc hf hv).mono (fun e w' h => .inr ⟨by simp, h.1, h.2⟩)
end Go.Proofs.YthhblcbnnmoojaaGreatDoor
