/- TallySpoiled: the walk -/
import Derived.Test.YtlmngdcifappoaaL
import Derived.Test.YtlmngdcifappoaaTallyPlain6
import Derived.RegionTactic
import Derived.ChangeAlike
import Derived.Deep.RegionHeld3
namespace Go.Proofs.Ytlmngdcifappoaa
open Go.RowKit
open Tally (Tl)

theorem tcs_setAll (l : List Tl) : ∀ {i : Nat} (u : Tl), i < l.length → (((tcs l).set (i * 3) (.int .i64 u.d)).set (i * 3 + 1) (.int .i64 u.s)).set (i * 3 + 2) (.int .i64 u.n) = tcs (l.set i u) := by
  induction l with
  | nil => intro i u h; simp at h
  | cons x r ih =>
    intro i u h
    cases i with
    | zero => rfl
    | succ p =>
      have := ih (i := p) u (by simpa using h)
      rw [tcs_cons, List.set_cons_succ, tcs_cons, ← this, show (p + 1) * 3 + 1 = p * 3 + 1 + 1 + 1 + 1 by omega, show (p + 1) * 3 + 2 = p * 3 + 2 + 1 + 1 + 1 by omega, show (p + 1) * 3 = p * 3 + 1 + 1 + 1 by omega]
      rfl
theorem tcs_set1 (l : List Tl) : ∀ {i : Nat} {t : Tl} (v : Int), l[i]? = some t → (tcs l).set (i * 3 + 1) (.int .i64 v) = tcs (l.set i ⟨t.d, v, t.n⟩) := by
  induction l with
  | nil => intro i t v h; cases h
  | cons x r ih =>
    intro i t v h
    cases i with
    | zero => cases h; rfl
    | succ p =>
      have := ih (i := p) (t := t) v (by simpa using h)
      rw [tcs_cons, show (p + 1) * 3 + 1 = p * 3 + 1 + 1 + 1 + 1 by omega, List.set_cons_succ, List.set_cons_succ, List.set_cons_succ, this]
      rfl

theorem TS.at0 {W : World} {b off n c i : Nat} {l : List Tl} {t : Tl} (h : TS W (some ⟨b, off, none⟩) n c l) (_hi : (0 : Int) ≤ (i : Int)) (ht : l[i]? = some t) :
    W.cell? ⟨b, off + i * 3, none⟩ = some (.int .i64 t.d) ∧ W.cell? ⟨b, off + i * 3 + 1, none⟩ = some (.int .i64 t.s) ∧ W.cell? ⟨b, off + i * 3 + 2, none⟩ = some (.int .i64 t.n) := by
  have hl := (List.getElem?_eq_some_iff.1 ht).1
  obtain ⟨b1, off1, e1, _, hc⟩ := h.cells (by rw [← h.len]; omega)
  cases e1
  exact hc i t ht

theorem run_ix (W : World) (b off n c i : Nat) (h : (i : Int) < (n : Int)) : (Instr.indexAt 22 (.slice (some ⟨b, off, none⟩) n c) (.int .i64 (i : Int))).run Try.prog W = .ok (.pointer (some ⟨b, off + i * 3, none⟩)) W := by
  obtain ⟨i0, hi, hz0, hz1, hz2⟩ := info_parts info38
  rw [run_indexAt_slice _ 22 _ n c _ _ Try.underlying22, if_pos ⟨by omega, h⟩]
  have he : Try.prog.elem 22 = 38 := by kernel_rfl
  simp [he, sizeOf, typeInfo, hi, hz1, Addr.add_lit]

set_option maxHeartbeats 4000000 in
set_option maxRecDepth 100000 in
theorem spoiled_walk (a : Option Addr) (n c : Nat) (l : List Tl) (x y : Int) (w : World) (H : TS w a n c l) (hx0 : 0 ≤ x) (hy0 : 0 ≤ y) (hy1 : y ≤ 255) :
    Calls Try.prog 9 #[.slice a n c, .int .u64 x, .int .u8 y] w (Tr w) := by
  obtain ⟨i0, hi, hz0, hz1, hz2⟩ := info_parts info38
  have ji := Lib.hid hi; have j0 := Lib.hid hz0; have j1 := Lib.hid hz1; have j2 := Lib.hid hz2
  clear hi hz0 hz1 hz2
  by_cases hn : n ≤ 60
  · have hf : (decide (n ≤ 60) && decide (0 ≤ 60)) = true := by simp [hn]
    by_cases hp : 0 < n
    · have hn0 : ((n : Int) == 0) = false := by simp; omega
      obtain ⟨b, off, rfl, hbl, _⟩ := H.cells hp
      by_cases q : Tally.chk l = true
      · have kc := Tally.chkE_t q
        have ii : InI 1 := by unfold InI; omega
        have hl := Lib.hid (show (tcs l).length = n * 3 from by rw [tcs_length, H.len])
        obtain ⟨i, hi0⟩ : ∃ i : Nat, x % (n : Int) = (i : Int) := ⟨(x % (n : Int)).toNat, by have := Int.emod_nonneg x (show (n : Int) ≠ 0 by omega); omega⟩
        have hin : (i : Int) < (n : Int) := by have := Int.emod_lt_of_pos x (show 0 < (n : Int) by omega); omega
        have hil : i < l.length := by rw [H.len]; omega
        have hi2 : (0 : Int) ≤ (i : Int) := by omega
        have hnn : i < n := by omega
        have hmx := H.max; have hle := H.le
        obtain ⟨t, ht⟩ : ∃ t, Hid (l[i]? = some t) := ⟨l[i], List.getElem?_eq_getElem hil⟩
        have hwf := Lib.hid (H.wf); have hlen := Lib.hid H.len
        by_cases y0 : y % 3 = 0
        · have y0b : (y % 3 == 0) = true := by simpa using y0
          have sp := Lib.hid (Tally.spoiled (Tally.spoil_twice ht.out) q 1 1 1)
          clear q y0 hil
          go_enter Try.func9, Try.ntmps9
          go_wp2_with fail
          refine (sane_any w).mono ?_
          rintro e w1 ⟨rfl, hb1⟩
          have H1 := H.below hb1 (Nat.le_refl _)
          go_wp2_with fail
          refine (few_any _ _ _ _ _ _ _).mono ?_
          rintro e w' ⟨rfl, rfl⟩
          go_wp2_with fail
          refine (check_any _ n c l _ H1).mono ?_
          rintro e w2 ⟨rfl, hb2⟩
          have H2 := H1.below hb2 (Nat.le_refl _)
          have hB2 := hb1.trans (hb2.mono hb1.size)
          go_wp2_with (first | (at_builtin; refine wpList_append_own _ rfl (.tmp 39) (.tmp 40) 22 rfl w2.heap.size 38 i0 _ 3 24 Try.underlying22 ji.out j0.out j1.out j2.out rfl (by decide) _ _ _ rfl (World.ownsRow_made (e := 38) (size := 3) w2 #[] 0 (Nat.le_refl _) (by unfold maxLen; omega) rfl) ⟨b, off, none⟩ n c (tcs l) rfl hl.out (H2.reads.below (w' := w2.alloc (.cells #[] 38)) ((Below.refl _ w2).alloc (Nat.le_refl _) _) (Nat.le_refl _)).news (tcs_one l) (by unfold maxLen; omega) (by omega) (by simp) ?_; intro v' w3 hown hgrow _; simp only [Nat.zero_add, List.nil_append] at hown; have hB3 : Below w2.heap.size w2 w3 := ((Below.refl _ w2).alloc (Nat.le_refl _) _).grown hgrow (by simp) (fun k e => by cases e; exact Nat.le_refl _); have H3 := H2.below hB3 (Nat.le_refl _); have hsz := hB3.size; have ⟨d0, d1, d2⟩ := H3.at0 hi2 ht.out; have hown0 := Lib.hid hown; clear hown) | (at_builtin; refine wpList_append_own _ rfl (.tmp 46) (.tmp 51) 22 rfl w2.heap.size 38 i0 _ 3 24 Try.underlying22 ji.out j0.out j1.out j2.out rfl (by decide) _ _ _ rfl (hown0.out.alloc _) ⟨w3.heap.size, 0, none⟩ 1 1 [.int .i64 t.d, .int .i64 t.s, .int .i64 t.n] rfl rfl (news_at _ _ 38 _ (by first | rfl | simp)) (tcs_one [t]) (by unfold maxLen; omega) (by omega) (by first | omega | (simp; omega)) ?_; intro v2 w4 hown2 hgrow2 _))
          have hB4 : Below w2.heap.size w3 w4 := ((Below.refl _ w3).alloc (by omega) _).grown hgrow2 (by simp; omega) (fun k e => (hown0.out.lt k e).1)
          have hB24 : Below w2.heap.size w2 w4 := hB3.trans hB4
          have H4 := H2.below hB24 (Nat.le_refl _)
          have hown3 : w4.ownsRow w2.heap.size 38 3 v2 (n + 1) (tcs (l ++ [t])) := by rw [tcs_append]; simpa [tcs, tv] using hown2
          obtain ⟨ax, cx, rfl, T4, _⟩ := ts_of_owns hown3 (Tally.WF.append (a := l) hwf.out (Tally.WF.get (l := l) hwf.out ht.out))
          have hB := hB2.trans (hB24.mono hB2.size)
          clear hown2 hown3 hown0 d0 d1 d2
          go_wp2_with fail
          refine (value_t ax (n + 1) cx (l ++ [t]) w4 T4 _ _ sp.out.1).mono ?_
          rintro e v1 ⟨rfl, g1⟩
          have S1 := T4.below g1 (Nat.le_refl _); have L1 := H4.below g1 (Nat.le_refl _)
          have G1 := hB.trans (g1.mono hB.size)
          go_wp2_with fail
          refine (add_t ax (n + 1) cx (l ++ [t]) 1 1 1 v1 S1 (by omega) ii ii ii [] 0 150 sp.out.2.1 rfl).mono ?_
          rintro e v2 ⟨_, _, rfl, _, g2⟩
          have S2 := S1.below g2 (Nat.le_refl _); have L2 := L1.below g2 (Nat.le_refl _)
          have G2 := G1.trans (g2.mono G1.size)
          go_wp2_with fail
          refine (join_t ax _ (n + 1) cx n c (l ++ [t]) l v2 S2 L2 (by omega) (by omega) [] 0 150 sp.out.2.2.1 rfl).mono ?_
          rintro e v3 ⟨_, _, rfl, _, g3⟩
          have S3 := S2.below g3 (Nat.le_refl _); have L3 := L2.below g3 (Nat.le_refl _)
          have G3 := G2.trans (g3.mono G2.size)
          go_wp2_with fail
          refine (join_t _ ax n c (n + 1) cx l (l ++ [t]) v3 L3 S3 (by omega) (by omega) [] 0 150 sp.out.2.2.2.1 rfl).mono ?_
          rintro e v4 ⟨_, _, rfl, _, g4⟩
          have S4 := S3.below g4 (Nat.le_refl _)
          have G4 := G3.trans (g4.mono G3.size)
          have hce := sp.out.2.2.2.2
          go_wp2_with fail
          refine (check_any ax (n + 1) cx (l ++ [t]) v4 S4).mono ?_
          rintro e v5 ⟨rfl, g5⟩
          have G5 := G4.trans (g5.mono G4.size)
          go_wp2_with fail
          go_ret
          exact ⟨rfl, G5⟩
        · have y0b : (y % 3 == 0) = false := by simpa using y0
          by_cases y1 : y % 3 = 1
          · have y1b : (y % 3 == 1) = true := by simpa using y1
            have sp := Lib.hid (Tally.spoiled (Tally.spoil_zero (t := ⟨t.d, 0, t.n⟩) hil rfl) q 1 1 1)
            clear q y0 y1 hil
            go_enter Try.func9, Try.ntmps9
            go_wp2_with fail
            refine (sane_any w).mono ?_
            rintro e w1 ⟨rfl, hb1⟩
            have H1 := H.below hb1 (Nat.le_refl _)
            go_wp2_with fail
            refine (few_any _ _ _ _ _ _ _).mono ?_
            rintro e w' ⟨rfl, rfl⟩
            go_wp2_with fail
            refine (check_any _ n c l _ H1).mono ?_
            rintro e w2 ⟨rfl, hb2⟩
            have H2 := H1.below hb2 (Nat.le_refl _)
            have hB2 := hb1.trans (hb2.mono hb1.size)
            go_wp2_with (at_builtin; refine wpList_append_own _ rfl (.tmp 39) (.tmp 40) 22 rfl w2.heap.size 38 i0 _ 3 24 Try.underlying22 ji.out j0.out j1.out j2.out rfl (by decide) _ _ _ rfl (World.ownsRow_made (e := 38) (size := 3) w2 #[] 0 (Nat.le_refl _) (by unfold maxLen; omega) rfl) ⟨b, off, none⟩ n c (tcs l) rfl hl.out (H2.reads.below (w' := w2.alloc (.cells #[] 38)) ((Below.refl _ w2).alloc (Nat.le_refl _) _) (Nat.le_refl _)).news (tcs_one l) (by unfold maxLen; omega) (by omega) (by simp) ?_; intro v' w3 hown hgrow _; simp only [Nat.zero_add, List.nil_append] at hown; obtain ⟨g, cap, rest, rfl, hgB, hgl, hg, hnc, hcm, _⟩ := Sl.owns_row hown (by omega); have hB3 : Below w2.heap.size w2 w3 := ((Below.refl _ w2).alloc (Nat.le_refl _) _).grown hgrow (by simp) (fun k e => by cases e; exact Nat.le_refl _); have hown0 : Hid (w3.ownsRow w2.heap.size 38 3 (.slice (some ⟨g, 0, none⟩) n cap) n (tcs l)) := Lib.hid hown; have k1 : w3.cell? ⟨g, i * 3 + 1, none⟩ = some (.int .i64 t.s) := (hown0.out.cellAt _ (by omega)).trans (tcs_get l ht.out).2.1; have f1 := hown0.out.frozenAt (i * 3 + 1); clear hown hg)
            have hown2 := (hown0.out.stored (i * 3 + 1) (.int .i64 0)).1
            have hB24 : Below w2.heap.size w2 (w3.setCell ⟨g, i * 3 + 1, none⟩ (.int .i64 0)) := hB3.setCell (p := ⟨g, _, none⟩) hgB _
            rw [tcs_set1 l 0 ht.out] at hown2
            generalize w3.setCell ⟨g, i * 3 + 1, none⟩ (.int .i64 0) = w4 at *
            have H4 := H2.below hB24 (Nat.le_refl _)
            have hwi := hwf.out t (List.mem_of_getElem? ht.out)
            obtain ⟨ax, cx, e4, T4, _⟩ := ts_of_owns hown2 (Tally.WF.set hwf.out (Tally.WF.one (t := ⟨t.d, 0, t.n⟩) ⟨hwi.1, by simp, hwi.2.2⟩))
            obtain ⟨rfl, rfl⟩ : some ⟨g, 0, none⟩ = ax ∧ cap = cx := by injection e4 with e5 e6 e7; exact ⟨e5, e7⟩
            have hB := hB2.trans (hB24.mono hB2.size)
            clear hown2 hown0 k1 f1 e4 hwi
            go_wp2_with fail
            refine (value_t _ (n) cap (l.set i ⟨t.d, 0, t.n⟩) w4 T4 _ _ sp.out.1).mono ?_
            rintro e v1 ⟨rfl, g1⟩
            have S1 := T4.below g1 (Nat.le_refl _); have L1 := H4.below g1 (Nat.le_refl _)
            have G1 := hB.trans (g1.mono hB.size)
            go_wp2_with fail
            refine (add_t _ (n) cap (l.set i ⟨t.d, 0, t.n⟩) 1 1 1 v1 S1 (by omega) ii ii ii [] 0 150 sp.out.2.1 rfl).mono ?_
            rintro e v2 ⟨_, _, rfl, _, g2⟩
            have S2 := S1.below g2 (Nat.le_refl _); have L2 := L1.below g2 (Nat.le_refl _)
            have G2 := G1.trans (g2.mono G1.size)
            go_wp2_with fail
            refine (join_t _ _ (n) cap n c (l.set i ⟨t.d, 0, t.n⟩) l v2 S2 L2 (by omega) (by omega) [] 0 150 sp.out.2.2.1 rfl).mono ?_
            rintro e v3 ⟨_, _, rfl, _, g3⟩
            have S3 := S2.below g3 (Nat.le_refl _); have L3 := L2.below g3 (Nat.le_refl _)
            have G3 := G2.trans (g3.mono G2.size)
            go_wp2_with fail
            refine (join_t _ _ n c (n) cap l (l.set i ⟨t.d, 0, t.n⟩) v3 L3 S3 (by omega) (by omega) [] 0 150 sp.out.2.2.2.1 rfl).mono ?_
            rintro e v4 ⟨_, _, rfl, _, g4⟩
            have S4 := S3.below g4 (Nat.le_refl _)
            have G4 := G3.trans (g4.mono G3.size)
            have hce := sp.out.2.2.2.2
            go_wp2_with fail
            refine (check_any _ (n) cap (l.set i ⟨t.d, 0, t.n⟩) v4 S4).mono ?_
            rintro e v5 ⟨rfl, g5⟩
            have G5 := G4.trans (g5.mono G4.size)
            go_wp2_with fail
            go_ret
            exact ⟨rfl, G5⟩
          · have y1b : (y % 3 == 1) = false := by simpa using y1
            have y2b : (y % 3 == 2) = true := by simp; omega
            obtain ⟨k, hk0⟩ : ∃ k : Nat, ((i : Int) + 1) % (n : Int) = (k : Int) := ⟨(((i : Int) + 1) % (n : Int)).toNat, by have := Int.emod_nonneg ((i : Int) + 1) (show (n : Int) ≠ 0 by omega); omega⟩
            have hkn : (k : Int) < (n : Int) := by have := Int.emod_lt_of_pos ((i : Int) + 1) (show 0 < (n : Int) by omega); omega
            have hk2 : (0 : Int) ≤ (k : Int) := by omega
            have hkn2 : k < n := by omega
            by_cases hki : k = i
            · have hkb : ((k : Int) == (i : Int)) = true := by simp [hki]
              clear q y0 y1 hil hki
              go_enter Try.func9, Try.ntmps9
              go_wp2_with fail
              refine (sane_any w).mono ?_
              rintro e w1 ⟨rfl, hb1⟩
              have H1 := H.below hb1 (Nat.le_refl _)
              go_wp2_with fail
              refine (few_any _ _ _ _ _ _ _).mono ?_
              rintro e w' ⟨rfl, rfl⟩
              go_wp2_with fail
              refine (check_any _ n c l _ H1).mono ?_
              rintro e w2 ⟨rfl, hb2⟩
              have H2 := H1.below hb2 (Nat.le_refl _)
              have hB2 := hb1.trans (hb2.mono hb1.size)
              go_wp2_with (at_builtin; refine wpList_append_own _ rfl (.tmp 39) (.tmp 40) 22 rfl w2.heap.size 38 i0 _ 3 24 Try.underlying22 ji.out j0.out j1.out j2.out rfl (by decide) _ _ _ rfl (World.ownsRow_made (e := 38) (size := 3) w2 #[] 0 (Nat.le_refl _) (by unfold maxLen; omega) rfl) ⟨b, off, none⟩ n c (tcs l) rfl hl.out (H2.reads.below (w' := w2.alloc (.cells #[] 38)) ((Below.refl _ w2).alloc (Nat.le_refl _) _) (Nat.le_refl _)).news (tcs_one l) (by unfold maxLen; omega) (by omega) (by simp) ?_; intro v' w3 hown hgrow _; simp only [Nat.zero_add, List.nil_append] at hown)
              have hB3 : Below w2.heap.size w2 w3 := ((Below.refl _ w2).alloc (Nat.le_refl _) _).grown hgrow (by simp) (fun k e => by cases e; exact Nat.le_refl _)
              go_wp2_with fail
              go_ret
              exact ⟨rfl, hB2.trans (hB3.mono hB2.size)⟩
            · have hkb : ((k : Int) == (i : Int)) = false := by simp; omega
              have hkl : k < l.length := by rw [H.len]; omega
              obtain ⟨u, hu⟩ : ∃ u, Hid (l[k]? = some u) := ⟨l[k], List.getElem?_eq_getElem hkl⟩
              have sp := Lib.hid (Tally.spoiled (Tally.spoil_swap q ht.out hu.out (fun e => hki e.symm)) q 1 1 1)
              have hik : ¬ i = k := fun e => hki e.symm
              have hki0 := hki; have hil0 := Lib.hid hil; have hkl0 := Lib.hid hkl
              clear q y0 y1 hil hki hkl
              go_enter Try.func9, Try.ntmps9
              go_wp2_with fail
              refine (sane_any w).mono ?_
              rintro e w1 ⟨rfl, hb1⟩
              have H1 := H.below hb1 (Nat.le_refl _)
              go_wp2_with fail
              refine (few_any _ _ _ _ _ _ _).mono ?_
              rintro e w' ⟨rfl, rfl⟩
              go_wp2_with fail
              refine (check_any _ n c l _ H1).mono ?_
              rintro e w2 ⟨rfl, hb2⟩
              have H2 := H1.below hb2 (Nat.le_refl _)
              have hB2 := hb1.trans (hb2.mono hb1.size)
              go_wp2_with (at_builtin; refine wpList_append_own _ rfl (.tmp 39) (.tmp 40) 22 rfl w2.heap.size 38 i0 _ 3 24 Try.underlying22 ji.out j0.out j1.out j2.out rfl (by decide) _ _ _ rfl (World.ownsRow_made (e := 38) (size := 3) w2 #[] 0 (Nat.le_refl _) (by unfold maxLen; omega) rfl) ⟨b, off, none⟩ n c (tcs l) rfl hl.out (H2.reads.below (w' := w2.alloc (.cells #[] 38)) ((Below.refl _ w2).alloc (Nat.le_refl _) _) (Nat.le_refl _)).news (tcs_one l) (by unfold maxLen; omega) (by omega) (by simp) ?_; intro v' w3 hown hgrow _; simp only [Nat.zero_add, List.nil_append] at hown; obtain ⟨g, cap, rest, rfl, hgB, hgl, hg, hnc, hcm, _⟩ := Sl.owns_row hown (by omega); have hB3 : Below w2.heap.size w2 w3 := ((Below.refl _ w2).alloc (Nat.le_refl _) _).grown hgrow (by simp) (fun k e => by cases e; exact Nat.le_refl _); have hown0 : Hid (w3.ownsRow w2.heap.size 38 3 (.slice (some ⟨g, 0, none⟩) n cap) n (tcs l)) := Lib.hid hown; have p0 : w3.cell? ⟨g, i * 3, none⟩ = some (.int .i64 t.d) := (hown0.out.cellAt _ (by omega)).trans (tcs_get l ht.out).1; have p1 : w3.cell? ⟨g, i * 3 + 1, none⟩ = some (.int .i64 t.s) := (hown0.out.cellAt _ (by omega)).trans (tcs_get l ht.out).2.1; have p2 : w3.cell? ⟨g, i * 3 + 2, none⟩ = some (.int .i64 t.n) := (hown0.out.cellAt _ (by omega)).trans (tcs_get l ht.out).2.2; have q0 : w3.cell? ⟨g, k * 3, none⟩ = some (.int .i64 u.d) := (hown0.out.cellAt _ (by omega)).trans (tcs_get l hu.out).1; have q1 : w3.cell? ⟨g, k * 3 + 1, none⟩ = some (.int .i64 u.s) := (hown0.out.cellAt _ (by omega)).trans (tcs_get l hu.out).2.1; have q2 : w3.cell? ⟨g, k * 3 + 2, none⟩ = some (.int .i64 u.n) := (hown0.out.cellAt _ (by omega)).trans (tcs_get l hu.out).2.2; have fp0 := hown0.out.frozenAt (i * 3); have fp1 := hown0.out.frozenAt (i * 3 + 1); have fp2 := hown0.out.frozenAt (i * 3 + 2); have fq0 := hown0.out.frozenAt (k * 3); have fq1 := hown0.out.frozenAt (k * 3 + 1); have fq2 := hown0.out.frozenAt (k * 3 + 2); clear hown hg)
              go_region
              go_wp2_with fail
              have hown2 : World.ownsRow (((((((w3.setCell ⟨g, i * 3, none⟩ (.int .i64 u.d)).setCell ⟨g, i * 3 + 1, none⟩ (.int .i64 u.s)).setCell ⟨g, i * 3 + 2, none⟩ (.int .i64 u.n)).setCell ⟨g, k * 3, none⟩ (.int .i64 t.d)).setCell ⟨g, k * 3 + 1, none⟩ (.int .i64 t.s)).setCell ⟨g, k * 3 + 2, none⟩ (.int .i64 t.n)).drewN 1) w2.heap.size 38 3 (.slice (some ⟨g, 0, none⟩) n cap) n _ := owns_drewN ((((((hown0.out.stored (i * 3) (.int .i64 u.d)).1.stored (i * 3 + 1) (.int .i64 u.s)).1.stored (i * 3 + 2) (.int .i64 u.n)).1.stored (k * 3) (.int .i64 t.d)).1.stored (k * 3 + 1) (.int .i64 t.s)).1.stored (k * 3 + 2) (.int .i64 t.n)).1 1
              have hB24 : Below w2.heap.size w2 (((((((w3.setCell ⟨g, i * 3, none⟩ (.int .i64 u.d)).setCell ⟨g, i * 3 + 1, none⟩ (.int .i64 u.s)).setCell ⟨g, i * 3 + 2, none⟩ (.int .i64 u.n)).setCell ⟨g, k * 3, none⟩ (.int .i64 t.d)).setCell ⟨g, k * 3 + 1, none⟩ (.int .i64 t.s)).setCell ⟨g, k * 3 + 2, none⟩ (.int .i64 t.n)).drewN 1) := ((((((hB3.setCell (p := ⟨g, _, none⟩) hgB _).setCell (p := ⟨g, _, none⟩) hgB _).setCell (p := ⟨g, _, none⟩) hgB _).setCell (p := ⟨g, _, none⟩) hgB _).setCell (p := ⟨g, _, none⟩) hgB _).setCell (p := ⟨g, _, none⟩) hgB _).trans (below_drewN _ 1 _)
              rw [tcs_setAll l u hil0.out, tcs_setAll (l.set i u) t (by simpa using hkl0.out)] at hown2
              change World.ownsRow (((((((w3.setCell ⟨g, i * 3, none⟩ (.int .i64 u.d)).setCell ⟨g, i * 3 + 1, none⟩ (.int .i64 u.s)).setCell ⟨g, i * 3 + 2, none⟩ (.int .i64 u.n)).setCell ⟨g, k * 3, none⟩ (.int .i64 t.d)).setCell ⟨g, k * 3 + 1, none⟩ (.int .i64 t.s)).setCell ⟨g, k * 3 + 2, none⟩ (.int .i64 t.n)).drew) _ _ _ _ _ _ at hown2
              change Below w2.heap.size w2 (((((((w3.setCell ⟨g, i * 3, none⟩ (.int .i64 u.d)).setCell ⟨g, i * 3 + 1, none⟩ (.int .i64 u.s)).setCell ⟨g, i * 3 + 2, none⟩ (.int .i64 u.n)).setCell ⟨g, k * 3, none⟩ (.int .i64 t.d)).setCell ⟨g, k * 3 + 1, none⟩ (.int .i64 t.s)).setCell ⟨g, k * 3 + 2, none⟩ (.int .i64 t.n)).drew) at hB24
              generalize ((((((w3.setCell ⟨g, i * 3, none⟩ (.int .i64 u.d)).setCell ⟨g, i * 3 + 1, none⟩ (.int .i64 u.s)).setCell ⟨g, i * 3 + 2, none⟩ (.int .i64 u.n)).setCell ⟨g, k * 3, none⟩ (.int .i64 t.d)).setCell ⟨g, k * 3 + 1, none⟩ (.int .i64 t.s)).setCell ⟨g, k * 3 + 2, none⟩ (.int .i64 t.n)).drew = w4 at *
              have H4 := H2.below hB24 (Nat.le_refl _)
              obtain ⟨ax, cx, e4, T4, _⟩ := ts_of_owns hown2 (Tally.WF.set (Tally.WF.set hwf.out (Tally.WF.get (l := l) hwf.out hu.out)) (Tally.WF.get (l := l) hwf.out ht.out))
              obtain ⟨rfl, rfl⟩ : some ⟨g, 0, none⟩ = ax ∧ cap = cx := by injection e4 with e5 e6 e7; exact ⟨e5, e7⟩
              have hB := hB2.trans (hB24.mono hB2.size)
              clear hown2 hown0 p0 p1 p2 q0 q1 q2 fp0 fp1 fp2 fq0 fq1 fq2 e4
              refine (value_t _ (n) cap ((l.set i u).set k t) w4 T4 _ _ sp.out.1).mono ?_
              rintro e v1 ⟨rfl, g1⟩
              have S1 := T4.below g1 (Nat.le_refl _); have L1 := H4.below g1 (Nat.le_refl _)
              have G1 := hB.trans (g1.mono hB.size)
              go_wp2_with fail
              refine (add_t _ (n) cap ((l.set i u).set k t) 1 1 1 v1 S1 (by omega) ii ii ii [] 0 150 sp.out.2.1 rfl).mono ?_
              rintro e v2 ⟨_, _, rfl, _, g2⟩
              have S2 := S1.below g2 (Nat.le_refl _); have L2 := L1.below g2 (Nat.le_refl _)
              have G2 := G1.trans (g2.mono G1.size)
              go_wp2_with fail
              refine (join_t _ _ (n) cap n c ((l.set i u).set k t) l v2 S2 L2 (by omega) (by omega) [] 0 150 sp.out.2.2.1 rfl).mono ?_
              rintro e v3 ⟨_, _, rfl, _, g3⟩
              have S3 := S2.below g3 (Nat.le_refl _); have L3 := L2.below g3 (Nat.le_refl _)
              have G3 := G2.trans (g3.mono G2.size)
              go_wp2_with fail
              refine (join_t _ _ n c (n) cap l ((l.set i u).set k t) v3 L3 S3 (by omega) (by omega) [] 0 150 sp.out.2.2.2.1 rfl).mono ?_
              rintro e v4 ⟨_, _, rfl, _, g4⟩
              have S4 := S3.below g4 (Nat.le_refl _)
              have G4 := G3.trans (g4.mono G3.size)
              have hce := sp.out.2.2.2.2
              go_wp2_with fail
              refine (check_any _ (n) cap ((l.set i u).set k t) v4 S4).mono ?_
              rintro e v5 ⟨rfl, g5⟩
              have G5 := G4.trans (g5.mono G4.size)
              go_wp2_with fail
              go_ret
              exact ⟨rfl, G5⟩
      · have kc := Tally.chkE_f (by simpa using q : Tally.chk l = false)
        go_enter Try.func9, Try.ntmps9
        go_wp2_with fail
        refine (sane_any w).mono ?_
        rintro e w1 ⟨rfl, hb1⟩
        have H1 := H.below hb1 (Nat.le_refl _)
        go_wp2_with fail
        refine (few_any _ _ _ _ _ _ _).mono ?_
        rintro e w' ⟨rfl, rfl⟩
        go_wp2_with fail
        refine (check_any _ n c l _ H1).mono ?_
        rintro e w2 ⟨rfl, hb2⟩
        have H2 := H1.below hb2 (Nat.le_refl _)
        have hB2 := hb1.trans (hb2.mono hb1.size)
        go_wp2_with fail
        go_ret
        exact ⟨rfl, hB2⟩
    · have hn0 : ((n : Int) == 0) = true := by simp; omega
      go_enter Try.func9, Try.ntmps9
      go_wp2_with fail
      refine (sane_any w).mono ?_
      rintro e w1 ⟨rfl, hb1⟩
      have H1 := H.below hb1 (Nat.le_refl _)
      go_wp2_with fail
      refine (few_any _ _ _ _ _ _ _).mono ?_
      rintro e w' ⟨rfl, rfl⟩
      go_wp2_with fail
      go_ret
      exact ⟨rfl, hb1⟩
  · have hf : (decide (n ≤ 60) && decide (0 ≤ 60)) = false := by simp [hn]
    go_enter Try.func9, Try.ntmps9
    go_wp2_with fail
    refine (sane_any w).mono ?_
    rintro e w1 ⟨rfl, hb1⟩
    have H1 := H.below hb1 (Nat.le_refl _)
    go_wp2_with fail
    refine (few_any _ _ _ _ _ _ _).mono ?_
    rintro e w' ⟨rfl, rfl⟩
    go_wp2_with fail
    go_ret
    exact ⟨rfl, hb1⟩
end Go.Proofs.Ytlmngdcifappoaa
