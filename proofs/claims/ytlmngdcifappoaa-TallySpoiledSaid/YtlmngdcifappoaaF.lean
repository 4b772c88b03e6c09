/- the reference's Add -/
import Derived.Test.YtlmngdcifappoaaE
import Derived.Test.YtlmngdcifappoaaTallyPlain2
namespace Go.Proofs.Ytlmngdcifappoaa
open Go.RowKit
open Tally (Tl)

theorem news_alloc (w : World) (ys : List Value) (e : TypeId) : ∀ j u, ys[j]? = some u → (w.alloc (.cells ys.toArray e)).cell? ((⟨w.heap.size, 0, none⟩ : Addr).add j) = some u := by
  intro j u hj
  rw [Addr.add_lit, Nat.zero_add, cell_of_row _ _ _ _ _ _ (heap_alloc_new w _)]
  simpa using hj

theorem news_at (w : World) (ys : List Value) (e : TypeId) (N : Nat) (hN : w.heap.size = N) : ∀ j u, ys[j]? = some u → (w.alloc (.cells ys.toArray e)).cell? ((⟨N, 0, none⟩ : Addr).add j) = some u := by
  subst hN; exact news_alloc w ys e

/-- a cell of a block that is no owned row, behind an append. -/
theorem cell_grown {w w' : World} {v : Value} {b o : Nat} {x : Value} (hg : w.grownBy w' v.ownBlock) (hc : w.cell? ⟨b, o, none⟩ = some x) (hne : ∀ k, v.ownBlock = some k → b ≠ k) : w'.cell? ⟨b, o, none⟩ = some x :=
  hg.cell hc (by intro e; exact hne b e.symm rfl)

theorem cell_new3 (w : World) (v u x : Value) (t : TypeId) : (w.alloc (.cells #[v, u, x] t)).cell? ⟨w.heap.size, 0, none⟩ = some v ∧ (w.alloc (.cells #[v, u, x] t)).cell? ⟨w.heap.size, 1, none⟩ = some u ∧ (w.alloc (.cells #[v, u, x] t)).cell? ⟨w.heap.size, 2, none⟩ = some x :=
  ⟨by rw [cell_of_row _ _ _ _ _ _ (heap_alloc_new w _)]; rfl, by rw [cell_of_row _ _ _ _ _ _ (heap_alloc_new w _)]; rfl, by rw [cell_of_row _ _ _ _ _ _ (heap_alloc_new w _)]; rfl⟩

def tval (t : Tl) : Value := .agg #[.int .i64 t.d, .int .i64 t.s, .int .i64 t.n]

set_option maxHeartbeats 2000000 in
theorem radd_any (a : Option Addr) (n c : Nat) (l : List Tl) (d s m : Int) (w : World) (H : TS w a n c l) (hn : n ≤ 1000000) :
    Calls Try.prog 15 #[.slice a n c, .agg #[.int .i64 d, .int .i64 s], .int .i64 m] w (Ret w.heap.size (Tally.addSpec l d s m) w) := by
  obtain ⟨i0, hi, hz0, hz1, hz2⟩ := info_parts info38
  have hb0 : Below w.heap.size w (w.alloc (.cells #[.int .i64 d, .int .i64 s] 24)) := (Below.refl _ _).alloc (Nat.le_refl _) _
  have H0 := H.below hb0 (Nat.le_refl _)
  obtain ⟨p0, p1⟩ := cell_new2 w (.int .i64 d) (.int .i64 s) 24
  obtain ⟨W0, hW0⟩ : ∃ W0, W0 = w.alloc (.cells #[.int .i64 d, .int .i64 s] 24) := ⟨_, rfl⟩
  have hsz : w.heap.size < W0.heap.size := by rw [hW0]; simp
  rw [← hW0] at hb0 H0 p0 p1
  by_cases hchk : Tally.chk l = true
  · have hE := Tally.chkE_t hchk
    by_cases hdot : Tally.dot d s = true
    · have hres := Lib.hid (Tally.raddGo_addSpec (n := m) hchk hdot)
      clear hchk
      go_enter Try.func15, Try.ntmps15
      go_wp2_with fail
      rw [← hW0]
      refine (rcheck_any a n c l _ H0).mono ?_
      rintro e w1 ⟨rfl, hb1⟩
      have q0 := (hb1.cell (p := ⟨w.heap.size, 0, none⟩) hsz).trans p0
      have q1 := (hb1.cell (p := ⟨w.heap.size, 1, none⟩) hsz).trans p1
      have H1 := H0.below hb1 (Nat.le_refl _)
      have hsz1 : w.heap.size < w1.heap.size := Nat.lt_of_lt_of_le hsz hb1.size
      have hB1 : Below w.heap.size w w1 := hb0.trans (hb1.mono hb0.size)
      have hle := H.le
      have hmx := H.max
      go_wp2_with fail
      refine (dot_any _ _ _).mono ?_
      rintro e w2 ⟨rfl, rfl⟩
      go_wp2_with fail
      go_loopw [9, 10, 11] (fun xv dv iv wr => ∃ (k : Nat) (x : List Tl) (done : Bool), k ≤ n ∧ iv = .int .i64 k ∧ dv = .bool done ∧ x.length ≤ 2 * k ∧
          Tally.raddGo d s m (l.drop k) x done = Tally.raddGo d s m l [] false ∧ wr.ownsRow w1.heap.size 38 3 xv x.length (tcs x) ∧ Below w1.heap.size w1 wr)
        (fun _ _ i _ => n - (intOf i).toNat)
      case atStart => exact ⟨0, [], false, Nat.zero_le _, rfl, rfl, Nat.le_refl _, rfl, World.ownsRow_made (e := 38) (size := 3) w1 #[] 0 (Nat.le_refl _) (by unfold maxLen; omega) rfl, (Below.refl _ _).alloc (Nat.le_refl _) _⟩
      case round =>
        obtain ⟨k, x, done, hk, rfl, rfl, hxl, hinv, hown, hb⟩ := hrel
        have hsz2 : w1.heap.size ≤ wr.heap.size := hb.size
        have hsz3 : w.heap.size < wr.heap.size := by omega
        have r0 := (hb.cell (p := ⟨w.heap.size, 0, none⟩) hsz1).trans q0
        have r1 := (hb.cell (p := ⟨w.heap.size, 1, none⟩) hsz1).trans q1
        by_cases hlt : k < n
        · obtain ⟨b, off, rfl, hbs, hc⟩ := H1.cells (by omega)
          have hkl : k < l.length := by rw [H.len]; exact hlt
          obtain ⟨c0, c1, c2⟩ := hc k l[k] (List.getElem?_eq_getElem hkl)
          rw [← hb.cell (p := ⟨b, _, none⟩) hbs] at c0 c1 c2
          have hwf := H.wf l[k] (List.getElem_mem hkl)
          rw [List.drop_eq_getElem_cons hkl] at hinv
          generalize l[k] = t at *
          have hvne : ∀ q, u9.ownBlock = some q → w1.heap.size ≤ q ∧ q < wr.heap.size := hown.lt
          have hown' := Lib.hid hown
          have hvne' := Lib.hid hvne
          clear hown hc hkl hvne
          have hbt := hb.alloc hb.size (Obj.cells #[Value.int IntKind.i64 t.d, Value.int IntKind.i64 t.s, Value.int IntKind.i64 t.n] 38)
          by_cases h1 : t.d = d
          · subst h1
            by_cases h2 : s ≤ t.s
            · have he : Hid (Tally.addSpec l t.d s m = ([], 182)) := by
                show _ = _
                rw [hres.out, ← hinv, Tally.radd_twice rfl h2]
              clear hinv
              go_wp2_with fail
              go_ret2
              refine ⟨.slice none 0 0, by rw [he.out]; rfl, ?_, hB1.trans (hbt.mono (by omega))⟩
              rw [he.out]
              exact World.ownsRow_nil _ _ _ _
            · have hinv' : Hid (Tally.raddGo t.d s m (l.drop (k + 1)) (x ++ [⟨t.d, s, wrap64 (t.n + m)⟩]) true = Tally.raddGo t.d s m l [] false) := by
                show _ = _
                rw [← hinv, Tally.radd_same rfl h2]
              clear hinv
              have hnw := Lib.hid (news_at (wr.alloc (.cells #[.int .i64 t.d, .int .i64 s, .int .i64 (wrap64 (t.n + m))] 38)) [.int .i64 t.d, .int .i64 s, .int .i64 (wrap64 (t.n + m))] 38 (wr.heap.size + 1) (by simp))
              go_wp2_with (at_builtin; refine wpList_append_own _ rfl (.tmp 71) (.tmp 73) 22 rfl w1.heap.size 38 i0 _ 3 24 Try.underlying22 hi hz0 hz1 hz2 rfl (by decide) _ x.length (tcs x) rfl ((hown'.out.alloc _).alloc _) ⟨wr.heap.size + 1, 0, none⟩ 1 1 [.int .i64 t.d, .int .i64 s, .int .i64 (wrap64 (t.n + m))] rfl rfl hnw.out (tcs_one [⟨t.d, s, wrap64 (t.n + m)⟩]) (by unfold maxLen; omega) (by omega) (by simp; omega) ?_; intro v' w2 hown2 hgrow _; have hown2' := Lib.hid hown2; clear hown2)
              go_roundw
              case rel =>
                refine ⟨k + 1, _, true, by omega, by go_num, rfl, ?_, hinv'.out, ?_, ((hb.alloc hb.size _).alloc (by simp; omega) _).grown hgrow (by simp; omega) (fun q e => (hvne'.out q e).1)⟩
                · simp; omega
                · rw [tcs_append, List.length_append]; exact hown2'.out
              case measure => simp [intOf]; omega
          · by_cases h3 : d < t.d ∧ done = false
            · obtain ⟨h3, rfl⟩ := h3
              have hinv' : Hid (Tally.raddGo d s m (l.drop (k + 1)) (x ++ [⟨d, s, m⟩] ++ [t]) true = Tally.raddGo d s m l [] false) := by
                show _ = _
                rw [← hinv, Tally.radd_here h1 h3]
              clear hinv
              have hnw := Lib.hid (news_at (wr.alloc (.cells #[.int .i64 t.d, .int .i64 t.s, .int .i64 t.n] 38)) [.int .i64 d, .int .i64 s, .int .i64 m] 38 (wr.heap.size + 1) (by simp))
              have hh1 := Lib.hid h1
              have hne1 : (t.d == d) = false := by simpa using h1
              clear h1
              obtain ⟨t0, t1, t2⟩ := cell_new3 wr (.int .i64 t.d) (.int .i64 t.s) (.int .i64 t.n) 38
              have ta0 := Lib.cell?_alloc_some (Obj.cells #[.int .i64 d, .int .i64 s, .int .i64 m] 38) t0
              have ta1 := Lib.cell?_alloc_some (Obj.cells #[.int .i64 d, .int .i64 s, .int .i64 m] 38) t1
              have ta2 := Lib.cell?_alloc_some (Obj.cells #[.int .i64 d, .int .i64 s, .int .i64 m] 38) t2
              have da0 := Lib.cell?_alloc_some (Obj.cells #[.int .i64 d, .int .i64 s, .int .i64 m] 38) (Lib.cell?_alloc_some (Obj.cells #[.int .i64 t.d, .int .i64 t.s, .int .i64 t.n] 38) r0)
              have da1 := Lib.cell?_alloc_some (Obj.cells #[.int .i64 d, .int .i64 s, .int .i64 m] 38) (Lib.cell?_alloc_some (Obj.cells #[.int .i64 t.d, .int .i64 t.s, .int .i64 t.n] 38) r1)
              have hneT : Hid (∀ q, u9.ownBlock = some q → wr.heap.size ≠ q) := fun q e => by have := (hvne'.out q e).2; omega
              have hneD : Hid (∀ q, u9.ownBlock = some q → w.heap.size ≠ q) := fun q e => by have := (hvne'.out q e).1; omega
              have hba := (hbt.alloc (by simp; omega) (Obj.cells #[.int .i64 d, .int .i64 s, .int .i64 m] 38))
              have H6 := Lib.hid (And.intro ta0 (And.intro ta1 (And.intro ta2 (And.intro da0 da1))))
              clear t0 t1 t2 ta0 ta1 ta2 da0 da1
              go_wp2_with (first
                | (at_builtin; refine wpList_append_own _ rfl (.tmp 44) (.tmp 51) 22 rfl w1.heap.size 38 i0 _ 3 24 Try.underlying22 hi hz0 hz1 hz2 rfl (by decide) _ x.length (tcs x) rfl ((hown'.out.alloc _).alloc _) ⟨wr.heap.size + 1, 0, none⟩ 1 1 [.int .i64 d, .int .i64 s, .int .i64 m] rfl rfl hnw.out (tcs_one [⟨d, s, m⟩]) (by unfold maxLen; omega) (by omega) (by simp; omega) ?_; intro v' w2 hown2 hgrow _; have hown2' := Lib.hid hown2; clear hown2; have e0 := cell_grown hgrow H6.out.1 hneT.out; have e1 := cell_grown hgrow H6.out.2.1 hneT.out; have e2 := cell_grown hgrow H6.out.2.2.1 hneT.out; have e3 := cell_grown hgrow H6.out.2.2.2.1 hneD.out; have e4 := cell_grown hgrow H6.out.2.2.2.2 hneD.out; have hba2 := hba.grown hgrow (by simp; omega) (fun q e => (hvne'.out q e).1); clear hgrow; have hnw2 := Lib.hid (news_at w2 [.int .i64 t.d, .int .i64 t.s, .int .i64 t.n] 38 w2.heap.size rfl))
                | (at_builtin; refine wpList_append_own _ rfl (.tmp 71) (.tmp 73) 22 rfl w1.heap.size 38 i0 _ 3 24 Try.underlying22 hi hz0 hz1 hz2 rfl (by decide) _ (x.length + 1) (tcs x ++ [.int .i64 d, .int .i64 s, .int .i64 m]) rfl (hown2'.out.alloc _) ⟨w2.heap.size, 0, none⟩ 1 1 [.int .i64 t.d, .int .i64 t.s, .int .i64 t.n] rfl rfl hnw2.out (tcs_one [t]) (by unfold maxLen; omega) (by omega) (by have := hba2.size; simp; omega) ?_; intro v3 w3 hown3 hgrow3 _; have hown3' := Lib.hid hown3; clear hown3))
              go_roundw
              case rel =>
                refine ⟨k + 1, _, true, by omega, by go_num, rfl, ?_, hinv'.out, ?_, (hba2.alloc (by have := hba2.size; omega) _).grown hgrow3 (by have := hba2.size; simp; omega) (fun q e => (hown2'.out.lt q e).1)⟩
                · simp; omega
                · rw [tcs_append, tcs_append, List.length_append, List.length_append]; exact hown3'.out
              case measure => simp [intOf]; omega
            · have hinv' : Hid (Tally.raddGo d s m (l.drop (k + 1)) (x ++ [t]) done = Tally.raddGo d s m l [] false) := by
                show _ = _
                rw [← hinv, Tally.radd_past h1 h3]
              clear hinv
              have hnw := Lib.hid (news_at (wr.alloc (.cells #[.int .i64 t.d, .int .i64 t.s, .int .i64 t.n] 38)) [.int .i64 t.d, .int .i64 t.s, .int .i64 t.n] 38 (wr.heap.size + 1) (by simp))
              have hh1 := Lib.hid h1
              have hne1 : (t.d == d) = false := by simpa using h1
              have hh3 : d < t.d → done = true := fun h => by
                cases done with
                | true => rfl
                | false => exact absurd ⟨h, rfl⟩ h3
              have hh3' := Lib.hid hh3
              clear h1 h3 hh3
              by_cases hlt2 : d < t.d
              · have hdone := hh3'.out hlt2
                subst hdone
                go_wp2_with (at_builtin; refine wpList_append_own _ rfl (.tmp 71) (.tmp 73) 22 rfl w1.heap.size 38 i0 _ 3 24 Try.underlying22 hi hz0 hz1 hz2 rfl (by decide) _ x.length (tcs x) rfl ((hown'.out.alloc _).alloc _) ⟨wr.heap.size + 1, 0, none⟩ 1 1 [.int .i64 t.d, .int .i64 t.s, .int .i64 t.n] rfl rfl hnw.out (tcs_one [t]) (by unfold maxLen; omega) (by omega) (by simp; omega) ?_; intro v' w2 hown2 hgrow _; have hown2' := Lib.hid hown2; clear hown2)
                go_roundw
                case rel =>
                  refine ⟨k + 1, _, true, by omega, by go_num, rfl, ?_, hinv'.out, ?_, (hbt.alloc (by simp; omega) _).grown hgrow (by simp; omega) (fun q e => (hvne'.out q e).1)⟩
                  · simp; omega
                  · rw [tcs_append, List.length_append]; exact hown2'.out
                case measure => simp [intOf]; omega
              · go_wp2_with (at_builtin; refine wpList_append_own _ rfl (.tmp 71) (.tmp 73) 22 rfl w1.heap.size 38 i0 _ 3 24 Try.underlying22 hi hz0 hz1 hz2 rfl (by decide) _ x.length (tcs x) rfl ((hown'.out.alloc _).alloc _) ⟨wr.heap.size + 1, 0, none⟩ 1 1 [.int .i64 t.d, .int .i64 t.s, .int .i64 t.n] rfl rfl hnw.out (tcs_one [t]) (by unfold maxLen; omega) (by omega) (by simp; omega) ?_; intro v' w2 hown2 hgrow _; have hown2' := Lib.hid hown2; clear hown2)
                go_roundw
                case rel =>
                  refine ⟨k + 1, _, done, by omega, by go_num, rfl, ?_, hinv'.out, ?_, (hbt.alloc (by simp; omega) _).grown hgrow (by simp; omega) (fun q e => (hvne'.out q e).1)⟩
                  · simp; omega
                  · rw [tcs_append, List.length_append]; exact hown2'.out
                case measure => simp [intOf]; omega
        · have hkn : k = n := by omega
          subst hkn
          rw [List.drop_eq_nil_of_le (by rw [H.len]; omega)] at hinv
          have hown' := Lib.hid hown
          clear hown
          cases done with
          | true =>
            have he : Hid (Tally.addSpec l d s m = (x, 0)) := by
              show _ = _
              rw [hres.out, ← hinv]; simp [Tally.raddGo]
            clear hinv
            go_wp2_with fail
            go_ret2
            refine ⟨u9, by rw [he.out]; rfl, ?_, hB1.trans (hb.mono (by omega))⟩
            rw [he.out]
            exact Sl.owns_mono hown'.out (by omega)
          | false =>
            have he : Hid (Tally.addSpec l d s m = (x ++ [⟨d, s, m⟩], 0)) := by
              show _ = _
              rw [hres.out, ← hinv]; simp [Tally.raddGo]
            clear hinv
            have hnw := Lib.hid (news_at wr [.int .i64 d, .int .i64 s, .int .i64 m] 38 wr.heap.size rfl)
            go_wp2_with (at_builtin; refine wpList_append_own _ rfl (.tmp 77) (.tmp 84) 22 rfl w1.heap.size 38 i0 _ 3 24 Try.underlying22 hi hz0 hz1 hz2 rfl (by decide) _ x.length (tcs x) rfl (hown'.out.alloc _) ⟨wr.heap.size, 0, none⟩ 1 1 [.int .i64 d, .int .i64 s, .int .i64 m] rfl rfl hnw.out (tcs_one [⟨d, s, m⟩]) (by unfold maxLen; omega) (by omega) (by simp; omega) ?_; intro v' w2 hown2 hgrow _; have hown2' := Lib.hid hown2; clear hown2)
            go_ret2
            refine ⟨v', by rw [he.out]; rfl, ?_, hB1.trans (((hb.alloc hb.size _).grown hgrow (by simp; omega) (fun q e => (hown'.out.lt q e).1)).mono (by omega))⟩
            rw [he.out]
            show World.ownsRow _ w.heap.size 38 3 _ (x ++ [(⟨d, s, m⟩ : Tl)]).length (tcs (x ++ [(⟨d, s, m⟩ : Tl)]))
            rw [tcs_append, List.length_append]
            exact Sl.owns_mono hown2'.out (by omega)
    · have hdot' : Tally.dot d s = false := by simpa using hdot
      have hres : Hid (Tally.addSpec l d s m = ([], 150)) := by
        show _ = _
        simp only [Tally.addSpec, hchk, hdot', if_true, Bool.false_eq_true, if_false]
      clear hchk hdot
      go_enter Try.func15, Try.ntmps15
      go_wp2_with fail
      rw [← hW0]
      refine (rcheck_any a n c l _ H0).mono ?_
      rintro e w1 ⟨rfl, hb1⟩
      have q0 := (hb1.cell (p := ⟨w.heap.size, 0, none⟩) hsz).trans p0
      have q1 := (hb1.cell (p := ⟨w.heap.size, 1, none⟩) hsz).trans p1
      go_wp2_with fail
      refine (dot_any _ _ _).mono ?_
      rintro e w2 ⟨rfl, rfl⟩
      go_wp2_with fail
      go_ret2
      refine ⟨.slice none 0 0, by rw [hres.out]; rfl, ?_, hb0.trans (hb1.mono hb0.size)⟩
      rw [hres.out]
      exact World.ownsRow_nil _ _ _ _
  · have hchk' : Tally.chk l = false := by simpa using hchk
    have hE := Tally.chkE_f hchk'
    have hres : Hid (Tally.addSpec l d s m = ([], 150)) := by
      show _ = _
      simp only [Tally.addSpec, hchk', Bool.false_eq_true, if_false]
    clear hchk hchk'
    go_enter Try.func15, Try.ntmps15
    go_wp2_with fail
    rw [← hW0]
    refine (rcheck_any a n c l _ H0).mono ?_
    rintro e w1 ⟨rfl, hb1⟩
    go_wp2_with fail
    go_ret2
    refine ⟨.slice none 0 0, by rw [hres.out]; rfl, ?_, hb0.trans (hb1.mono hb0.size)⟩
    rw [hres.out]
    exact World.ownsRow_nil _ _ _ _

end Go.Proofs.Ytlmngdcifappoaa
