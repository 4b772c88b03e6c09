/- the reference's Join -/
import Derived.Test.YtlmngdcifappoaaF
import Derived.Test.YtlmngdcifappoaaR
namespace Go.Proofs.Ytlmngdcifappoaa
open Go.RowKit
open Tally (Tl)

theorem owns_setCell {w : World} {base b o : Nat} {e : TypeId} {sz : Nat} {v u : Value} {n : Nat} {xs : List Value} (h : w.ownsRow base e sz v n xs) (hne : ∀ q, v.ownBlock = some q → q ≠ b) : (w.setCell ⟨b, o, none⟩ u).ownsRow base e sz v n xs :=
  h.kept (row := some b) ⟨rfl, rfl, rfl, by simp, fun k _ hk => heap_setCell_other w ⟨b, o, none⟩ k u (fun e => hk (by simp [e]))⟩ (by
    cases hv : v.ownBlock with
    | none => exact .inl rfl
    | some q => exact .inr (by simp; exact hne q hv))

theorem below_dN {B : Nat} {a w : World} (h : Below B a w) (k : Nat) : Below B a (w.drewN k) := h.trans (below_drewN _ _ _)

set_option maxHeartbeats 40000000 in
set_option maxRecDepth 100000 in
theorem rjoin_any (a b : Option Addr) (n c m d : Nat) (l r : List Tl) (w : World) (H : TS w a n c l) (G : TS w b m d r) (hn : n ≤ 1000) (hm : m ≤ 1000) :
    Calls Try.prog 20 #[.slice a n c, .slice b m d] w (Ret w.heap.size (Tally.joinSpec l r) w) := by
  obtain ⟨i0, hi, hz0, hz1, hz2⟩ := info_parts info38
  by_cases hcl : Tally.chk l = true
  · have hE := Tally.chkE_t hcl
    by_cases hcr : Tally.chk r = true
    · have hE' := Tally.chkE_t hcr
      have hres : Hid (Tally.joinSpec l r = (Tally.merge l r, 0)) := by
        show _ = _
        rw [Tally.joinSpec_t hcl hcr, Tally.join_eq_merge (Tally.chk_iff.1 hcl).1 (Tally.chk_iff.1 hcr).1]
      clear hcl hcr
      go_enter Try.func20, Try.ntmps20
      go_wp2_with fail
      refine (rcheck_any a n c l _ H).mono ?_
      rintro e w1 ⟨rfl, hb1⟩
      have H1 := H.below hb1 (Nat.le_refl _)
      have G1 := G.below hb1 (Nat.le_refl _)
      go_wp2_with fail
      refine (rcheck_any b m d r _ G1).mono ?_
      rintro e w2 ⟨rfl, hb2⟩
      have H2 := H1.below hb2 (Nat.le_refl _)
      have G2 := G1.below hb2 (Nat.le_refl _)
      have hB2 := hb1.trans (hb2.mono hb1.size)
      have hle := H2.le
      have hmx := H2.max
      have gle := G2.le
      have gmx := G2.max
      go_wp2_with fail
      go_loopw [7, 8, 9] (fun xv iv kv wr => ∃ (i k : Nat) (x : List Tl), i ≤ n ∧ k ≤ m ∧ iv = .int .i64 i ∧ kv = .int .i64 k ∧ x.length ≤ i + k ∧
          x ++ Tally.merge (l.drop i) (r.drop k) = Tally.merge l r ∧ wr.ownsRow w2.heap.size 38 3 xv x.length (tcs x) ∧ Below w2.heap.size w2 wr)
        (fun _ i k _ => (n - (intOf i).toNat) + (m - (intOf k).toNat))
      case atStart => exact ⟨0, 0, [], Nat.zero_le _, Nat.zero_le _, rfl, rfl, Nat.le_refl _, rfl, World.ownsRow_made (e := 38) (size := 3) w2 #[] 0 (Nat.le_refl _) (by unfold maxLen; omega) rfl, (Below.refl _ _).alloc (Nat.le_refl _) _⟩
      case round =>
        obtain ⟨i, k, x, hi1, hk1, rfl, rfl, hxl, hinv, hown, hb⟩ := hrel
        have hsz2 : w2.heap.size ≤ wr.heap.size := hb.size
        have hown' := Lib.hid hown
        clear hown
        by_cases hin : i < n
        · obtain ⟨ba, offa, rfl, hba, hca⟩ := H2.cells (by omega)
          have hil : i < l.length := by rw [H.len]; exact hin
          obtain ⟨c0, c1, c2⟩ := hca i l[i] (List.getElem?_eq_getElem hil)
          rw [← hb.cell (p := ⟨ba, _, none⟩) hba] at c0 c1 c2
          have hld : l.drop i = l[i] :: l.drop (i + 1) := List.drop_eq_getElem_cons hil
          generalize l[i] = t at *
          have hin' : (i : Int) < (n : Int) := by omega
          have hne2 : ((i : Int) == (n : Int)) = false := by simp; omega
          clear hca hil
          by_cases hkm : k < m
          · obtain ⟨bb, offb, rfl, hbb, hcb⟩ := G2.cells (by omega)
            have hkl : k < r.length := by rw [G.len]; exact hkm
            obtain ⟨d0, d1, d2⟩ := hcb k r[k] (List.getElem?_eq_getElem hkl)
            rw [← hb.cell (p := ⟨bb, _, none⟩) hbb] at d0 d1 d2
            have hrd : r.drop k = r[k] :: r.drop (k + 1) := List.drop_eq_getElem_cons hkl
            generalize r[k] = u at *
            have hkm' : (k : Int) < (m : Int) := by omega
            have hne : ((k : Int) == (m : Int)) = false := by simp; omega
            clear hcb hkl
            by_cases hlt : t.d < u.d
            · clear d1 d2
              have hinv' : Hid (x ++ [t] ++ Tally.merge (l.drop (i + 1)) (r.drop k) = Tally.merge l r) := by
                show _ = _
                rw [← hinv, hld, hrd, Tally.merge_cons, if_pos hlt]; simp
              clear hinv hld hrd
              go_wp2_with fail
              go_quiet (fail)
              go_wp2_with (at_builtin; refine wpList_append_own _ rfl (.tmp 55) (.tmp 60) 22 rfl w2.heap.size 38 i0 _ 3 24 Try.underlying22 hi hz0 hz1 hz2 rfl (by decide) _ x.length (tcs x) rfl (by repeat (first | exact hown'.out | refine World.ownsRow.alloc ?_ _ | refine owns_drewN ?_ _ | refine owns_setCell ?_ g0.out)) ⟨wr.heap.size, 0, none⟩ 1 1 [.int .i64 t.d, .int .i64 t.s, .int .i64 t.n] rfl rfl (news_at _ _ 38 _ (by simp)) (tcs_one [t]) (by unfold maxLen; omega) (by omega) (by simp; omega) ?_; intro v' w3 hown3 hgrow _; have hown3' := Lib.hid hown3; clear hown3)
              go_roundw
              case rel =>
                refine ⟨i + 1, k, x ++ [t], by omega, by omega, by go_num, rfl, by simp; omega, hinv'.out, ?_, (show Below w2.heap.size w2 _ from by repeat (first | exact hb | refine below_dN ?_ _ | refine Below.alloc ?_ (by first | omega | (simp; omega)) _ | refine Below.setCell ?_ (by show w2.heap.size ≤ wd.heap.size; omega) _)).grown hgrow (by simp; omega) (fun q e => (hown'.out.lt q e).1)⟩
                rw [tcs_append, List.length_append]; exact hown3'.out
              case measure => simp [intOf]; omega
            · by_cases hgt : u.d < t.d
              · clear c1 c2
                have hinv' : Hid (x ++ [u] ++ Tally.merge (l.drop i) (r.drop (k + 1)) = Tally.merge l r) := by
                  show _ = _
                  rw [← hinv, hld, hrd, Tally.merge_cons, if_neg hlt, if_pos hgt]; simp
                clear hinv hld hrd
                have hd0 : decide (t.d < u.d) = false := by simpa using hlt
                clear hlt
                go_wp2_with fail
                go_quiet (fail)
                go_wp2_with fail
                go_quiet (fail)
                go_wp2_with (at_builtin; refine wpList_append_own _ rfl (.tmp 81) (.tmp 86) 22 rfl w2.heap.size 38 i0 _ 3 24 Try.underlying22 hi hz0 hz1 hz2 rfl (by decide) _ x.length (tcs x) rfl (by repeat (first | exact hown'.out | refine World.ownsRow.alloc ?_ _ | refine owns_drewN ?_ _ | refine owns_setCell ?_ g0.out)) ⟨wr.heap.size, 0, none⟩ 1 1 [.int .i64 u.d, .int .i64 u.s, .int .i64 u.n] rfl rfl (news_at _ _ 38 _ (by simp)) (tcs_one [u]) (by unfold maxLen; omega) (by omega) (by simp; omega) ?_; intro v' w3 hown3 hgrow _; have hown3' := Lib.hid hown3; clear hown3)
                go_roundw
                case rel =>
                  refine ⟨i, k + 1, x ++ [u], by omega, by omega, rfl, by go_num, by simp; omega, hinv'.out, ?_, (show Below w2.heap.size w2 _ from by repeat (first | exact hb | refine below_dN ?_ _ | refine Below.alloc ?_ (by first | omega | (simp; omega)) _ | refine Below.setCell ?_ (by show w2.heap.size ≤ wd.heap.size; omega) _)).grown hgrow (by simp; omega) (fun q e => (hown'.out.lt q e).1)⟩
                  rw [tcs_append, List.length_append]; exact hown3'.out
                case measure => simp [intOf]; omega
              · have hx1 := trivial
                by_cases hs1 : t.s < u.s
                · have hx0 := trivial
                  have hinv' : Hid (x ++ [u] ++ Tally.merge (l.drop (i + 1)) (r.drop (k + 1)) = Tally.merge l r) := by
                    show _ = _
                    rw [← hinv, hld, hrd, Tally.merge_cons, if_neg hlt, if_neg hgt, show Tally.mx t u = u from by unfold Tally.mx; rw [if_pos (.inl hs1)]]; simp
                  clear hinv hld hrd
                  have hd0 : decide (t.d < u.d) = false := by simpa using hlt
                  have hd1 : decide (u.d < t.d) = false := by simpa using hgt
                  clear hlt hgt
                  go_wp2_with fail
                  go_quiet (fail)
                  obtain ⟨q1, rfl⟩ : ∃ q1, q1 = nq := ⟨nq, rfl⟩
                  go_wp2_with fail
                  go_quiet (fail)
                  generalize hwd : (wr.drewN q1).drewN nq = wd
                  have hown' : Hid (wd.ownsRow w2.heap.size 38 3 u7 x.length (tcs x)) := by rw [← hwd]; exact owns_drewN (owns_drewN hown'.out _) _
                  have hb : Below w2.heap.size w2 wd := by rw [← hwd]; exact below_dN (below_dN hb _) _
                  have hsz2 : w2.heap.size ≤ wd.heap.size := hb.size
                  replace c0 : wd.cell? ⟨ba, offa + i * 3, none⟩ = some (.int .i64 t.d) := by rw [← hwd]; exact c0
                  replace c1 : wd.cell? ⟨ba, offa + i * 3 + 1, none⟩ = some (.int .i64 t.s) := by rw [← hwd]; exact c1
                  replace c2 : wd.cell? ⟨ba, offa + i * 3 + 2, none⟩ = some (.int .i64 t.n) := by rw [← hwd]; exact c2
                  replace d0 : wd.cell? ⟨bb, offb + k * 3, none⟩ = some (.int .i64 u.d) := by rw [← hwd]; exact d0
                  replace d1 : wd.cell? ⟨bb, offb + k * 3 + 1, none⟩ = some (.int .i64 u.s) := by rw [← hwd]; exact d1
                  replace d2 : wd.cell? ⟨bb, offb + k * 3 + 2, none⟩ = some (.int .i64 u.n) := by rw [← hwd]; exact d2
                  clear hwd
                  have hbbd : bb < wd.heap.size := by omega
                  have hbad : ba < wd.heap.size := by omega
                  go_wp2_with fail
                  go_quiet (fail)
                  obtain ⟨t0, t1, t2⟩ := cell_new3 wd (.int .i64 t.d) (.int .i64 t.s) (.int .i64 t.n) 38
                  have f0 := fun o => frozen_of_row (wd.alloc (.cells #[.int .i64 t.d, .int .i64 t.s, .int .i64 t.n] 38)) wd.heap.size o _ _ (heap_alloc_new wd _)
                  have g0 : Hid (∀ q, u7.ownBlock = some q → q ≠ wd.heap.size) := fun q e => by have := (hown'.out.lt q e).2; omega
                  have e0 := Lib.cell?_alloc_some (Obj.cells #[.int .i64 t.d, .int .i64 t.s, .int .i64 t.n] 38) d0
                  have e1 := Lib.cell?_alloc_some (Obj.cells #[.int .i64 t.d, .int .i64 t.s, .int .i64 t.n] 38) d1
                  have e2 := Lib.cell?_alloc_some (Obj.cells #[.int .i64 t.d, .int .i64 t.s, .int .i64 t.n] 38) d2
                  generalize hwe : (wd.alloc (.cells #[.int .i64 t.d, .int .i64 t.s, .int .i64 t.n] 38)).drewN nq = we
                  have hown' : Hid (we.ownsRow w2.heap.size 38 3 u7 x.length (tcs x)) := by rw [← hwe]; exact owns_drewN (hown'.out.alloc _) _
                  have hb : Below w2.heap.size w2 we := by rw [← hwe]; exact below_dN (hb.alloc hb.size _) _
                  have hsw : wd.heap.size < we.heap.size := by rw [← hwe]; simp
                  replace t0 : we.cell? ⟨wd.heap.size, 0, none⟩ = some (.int .i64 t.d) := by rw [← hwe]; exact t0
                  replace t1 : we.cell? ⟨wd.heap.size, 1, none⟩ = some (.int .i64 t.s) := by rw [← hwe]; exact t1
                  replace t2 : we.cell? ⟨wd.heap.size, 2, none⟩ = some (.int .i64 t.n) := by rw [← hwe]; exact t2
                  have f1 : we.frozen? ⟨wd.heap.size, 0, none⟩ = false := by rw [← hwe]; exact f0 0
                  have f2 : we.frozen? ⟨wd.heap.size, 1, none⟩ = false := by rw [← hwe]; exact f0 1
                  have f3 : we.frozen? ⟨wd.heap.size, 2, none⟩ = false := by rw [← hwe]; exact f0 2
                  replace d0 : we.cell? ⟨bb, offb + k * 3, none⟩ = some (.int .i64 u.d) := by rw [← hwe]; exact e0
                  replace d1 : we.cell? ⟨bb, offb + k * 3 + 1, none⟩ = some (.int .i64 u.s) := by rw [← hwe]; exact e1
                  replace d2 : we.cell? ⟨bb, offb + k * 3 + 2, none⟩ = some (.int .i64 u.n) := by rw [← hwe]; exact e2
                  clear hwe f0 e0 e1 e2 c0 c1 c2
                  have hszw : w2.heap.size ≤ wd.heap.size := hsz2
                  go_wp2_with (at_builtin; refine wpList_append_own _ rfl (.tmp 126) (.tmp 128) 22 rfl w2.heap.size 38 i0 _ 3 24 Try.underlying22 hi hz0 hz1 hz2 rfl (by decide) _ x.length (tcs x) rfl (by repeat (first | exact hown'.out | refine World.ownsRow.alloc ?_ _ | refine owns_drewN ?_ _ | refine owns_setCell ?_ g0.out)) ⟨we.heap.size, 0, none⟩ 1 1 [.int .i64 u.d, .int .i64 u.s, .int .i64 u.n] rfl rfl (news_at _ _ 38 _ (by simp)) (tcs_one [u]) (by unfold maxLen; omega) (by omega) (by simp; omega) ?_; intro v' w3 hown3 hgrow _; have hown3' := Lib.hid hown3; clear hown3)
                  go_roundw
                  case rel =>
                    refine ⟨i + 1, k + 1, x ++ [u], by omega, by omega, by go_num, by go_num, by simp; omega, hinv'.out, ?_, (show Below w2.heap.size w2 _ from by repeat (first | exact hb | refine below_dN ?_ _ | refine Below.alloc ?_ (by first | omega | (simp; omega)) _ | refine Below.setCell ?_ (by show w2.heap.size ≤ wd.heap.size; omega) _)).grown hgrow (by simp; omega) (fun q e => (hown'.out.lt q e).1)⟩
                    rw [tcs_append, List.length_append]; exact hown3'.out
                  case measure => simp [intOf]; omega
                · by_cases hs2 : u.s = t.s
                  · have hs3 : (u.s == t.s) = true := by simpa using hs2
                    by_cases hn1 : t.n < u.n
                    · have hx0 := trivial
                      have hinv' : Hid (x ++ [u] ++ Tally.merge (l.drop (i + 1)) (r.drop (k + 1)) = Tally.merge l r) := by
                        show _ = _
                        rw [← hinv, hld, hrd, Tally.merge_cons, if_neg hlt, if_neg hgt, show Tally.mx t u = u from by unfold Tally.mx; rw [if_pos (.inr ⟨hs2.symm, hn1⟩)]]; simp
                      clear hinv hld hrd
                      have hd0 : decide (t.d < u.d) = false := by simpa using hlt
                      have hd1 : decide (u.d < t.d) = false := by simpa using hgt
                      have hd2 : decide (t.s < u.s) = false := by simpa using hs1
                      clear hlt hgt hs1
                      clear hs2
                      go_wp2_with fail
                      go_quiet (fail)
                      obtain ⟨q1, rfl⟩ : ∃ q1, q1 = nq := ⟨nq, rfl⟩
                      go_wp2_with fail
                      go_quiet (fail)
                      generalize hwd : (wr.drewN q1).drewN nq = wd
                      have hown' : Hid (wd.ownsRow w2.heap.size 38 3 u7 x.length (tcs x)) := by rw [← hwd]; exact owns_drewN (owns_drewN hown'.out _) _
                      have hb : Below w2.heap.size w2 wd := by rw [← hwd]; exact below_dN (below_dN hb _) _
                      have hsz2 : w2.heap.size ≤ wd.heap.size := hb.size
                      replace c0 : wd.cell? ⟨ba, offa + i * 3, none⟩ = some (.int .i64 t.d) := by rw [← hwd]; exact c0
                      replace c1 : wd.cell? ⟨ba, offa + i * 3 + 1, none⟩ = some (.int .i64 t.s) := by rw [← hwd]; exact c1
                      replace c2 : wd.cell? ⟨ba, offa + i * 3 + 2, none⟩ = some (.int .i64 t.n) := by rw [← hwd]; exact c2
                      replace d0 : wd.cell? ⟨bb, offb + k * 3, none⟩ = some (.int .i64 u.d) := by rw [← hwd]; exact d0
                      replace d1 : wd.cell? ⟨bb, offb + k * 3 + 1, none⟩ = some (.int .i64 u.s) := by rw [← hwd]; exact d1
                      replace d2 : wd.cell? ⟨bb, offb + k * 3 + 2, none⟩ = some (.int .i64 u.n) := by rw [← hwd]; exact d2
                      clear hwd
                      have hbbd : bb < wd.heap.size := by omega
                      have hbad : ba < wd.heap.size := by omega
                      go_wp2_with fail
                      go_quiet (fail)
                      obtain ⟨t0, t1, t2⟩ := cell_new3 wd (.int .i64 t.d) (.int .i64 t.s) (.int .i64 t.n) 38
                      have f0 := fun o => frozen_of_row (wd.alloc (.cells #[.int .i64 t.d, .int .i64 t.s, .int .i64 t.n] 38)) wd.heap.size o _ _ (heap_alloc_new wd _)
                      have g0 : Hid (∀ q, u7.ownBlock = some q → q ≠ wd.heap.size) := fun q e => by have := (hown'.out.lt q e).2; omega
                      have e0 := Lib.cell?_alloc_some (Obj.cells #[.int .i64 t.d, .int .i64 t.s, .int .i64 t.n] 38) d0
                      have e1 := Lib.cell?_alloc_some (Obj.cells #[.int .i64 t.d, .int .i64 t.s, .int .i64 t.n] 38) d1
                      have e2 := Lib.cell?_alloc_some (Obj.cells #[.int .i64 t.d, .int .i64 t.s, .int .i64 t.n] 38) d2
                      generalize hwe : (wd.alloc (.cells #[.int .i64 t.d, .int .i64 t.s, .int .i64 t.n] 38)).drewN nq = we
                      have hown' : Hid (we.ownsRow w2.heap.size 38 3 u7 x.length (tcs x)) := by rw [← hwe]; exact owns_drewN (hown'.out.alloc _) _
                      have hb : Below w2.heap.size w2 we := by rw [← hwe]; exact below_dN (hb.alloc hb.size _) _
                      have hsw : wd.heap.size < we.heap.size := by rw [← hwe]; simp
                      replace t0 : we.cell? ⟨wd.heap.size, 0, none⟩ = some (.int .i64 t.d) := by rw [← hwe]; exact t0
                      replace t1 : we.cell? ⟨wd.heap.size, 1, none⟩ = some (.int .i64 t.s) := by rw [← hwe]; exact t1
                      replace t2 : we.cell? ⟨wd.heap.size, 2, none⟩ = some (.int .i64 t.n) := by rw [← hwe]; exact t2
                      have f1 : we.frozen? ⟨wd.heap.size, 0, none⟩ = false := by rw [← hwe]; exact f0 0
                      have f2 : we.frozen? ⟨wd.heap.size, 1, none⟩ = false := by rw [← hwe]; exact f0 1
                      have f3 : we.frozen? ⟨wd.heap.size, 2, none⟩ = false := by rw [← hwe]; exact f0 2
                      replace d0 : we.cell? ⟨bb, offb + k * 3, none⟩ = some (.int .i64 u.d) := by rw [← hwe]; exact e0
                      replace d1 : we.cell? ⟨bb, offb + k * 3 + 1, none⟩ = some (.int .i64 u.s) := by rw [← hwe]; exact e1
                      replace d2 : we.cell? ⟨bb, offb + k * 3 + 2, none⟩ = some (.int .i64 u.n) := by rw [← hwe]; exact e2
                      clear hwe f0 e0 e1 e2 c0 c1 c2
                      have hszw : w2.heap.size ≤ wd.heap.size := hsz2
                      go_wp2_with (at_builtin; refine wpList_append_own _ rfl (.tmp 126) (.tmp 128) 22 rfl w2.heap.size 38 i0 _ 3 24 Try.underlying22 hi hz0 hz1 hz2 rfl (by decide) _ x.length (tcs x) rfl (by repeat (first | exact hown'.out | refine World.ownsRow.alloc ?_ _ | refine owns_drewN ?_ _ | refine owns_setCell ?_ g0.out)) ⟨we.heap.size, 0, none⟩ 1 1 [.int .i64 u.d, .int .i64 u.s, .int .i64 u.n] rfl rfl (news_at _ _ 38 _ (by simp)) (tcs_one [u]) (by unfold maxLen; omega) (by omega) (by simp; omega) ?_; intro v' w3 hown3 hgrow _; have hown3' := Lib.hid hown3; clear hown3)
                      go_roundw
                      case rel =>
                        refine ⟨i + 1, k + 1, x ++ [u], by omega, by omega, by go_num, by go_num, by simp; omega, hinv'.out, ?_, (show Below w2.heap.size w2 _ from by repeat (first | exact hb | refine below_dN ?_ _ | refine Below.alloc ?_ (by first | omega | (simp; omega)) _ | refine Below.setCell ?_ (by show w2.heap.size ≤ wd.heap.size; omega) _)).grown hgrow (by simp; omega) (fun q e => (hown'.out.lt q e).1)⟩
                        rw [tcs_append, List.length_append]; exact hown3'.out
                      case measure => simp [intOf]; omega
                    · have hx0 := trivial
                      have hinv' : Hid (x ++ [t] ++ Tally.merge (l.drop (i + 1)) (r.drop (k + 1)) = Tally.merge l r) := by
                        show _ = _
                        rw [← hinv, hld, hrd, Tally.merge_cons, if_neg hlt, if_neg hgt, show Tally.mx t u = t from by unfold Tally.mx; rw [if_neg (by omega)]]; simp
                      clear hinv hld hrd
                      have hd0 : decide (t.d < u.d) = false := by simpa using hlt
                      have hd1 : decide (u.d < t.d) = false := by simpa using hgt
                      have hd2 : decide (t.s < u.s) = false := by simpa using hs1
                      have hd3 : decide (t.n < u.n) = false := by simpa using hn1
                      clear hlt hgt hs1 hn1
                      clear hs2
                      go_wp2_with fail
                      go_quiet (fail)
                      obtain ⟨q1, rfl⟩ : ∃ q1, q1 = nq := ⟨nq, rfl⟩
                      go_wp2_with fail
                      go_quiet (fail)
                      generalize hwd : (wr.drewN q1).drewN nq = wd
                      have hown' : Hid (wd.ownsRow w2.heap.size 38 3 u7 x.length (tcs x)) := by rw [← hwd]; exact owns_drewN (owns_drewN hown'.out _) _
                      have hb : Below w2.heap.size w2 wd := by rw [← hwd]; exact below_dN (below_dN hb _) _
                      have hsz2 : w2.heap.size ≤ wd.heap.size := hb.size
                      replace c0 : wd.cell? ⟨ba, offa + i * 3, none⟩ = some (.int .i64 t.d) := by rw [← hwd]; exact c0
                      replace c1 : wd.cell? ⟨ba, offa + i * 3 + 1, none⟩ = some (.int .i64 t.s) := by rw [← hwd]; exact c1
                      replace c2 : wd.cell? ⟨ba, offa + i * 3 + 2, none⟩ = some (.int .i64 t.n) := by rw [← hwd]; exact c2
                      replace d0 : wd.cell? ⟨bb, offb + k * 3, none⟩ = some (.int .i64 u.d) := by rw [← hwd]; exact d0
                      replace d1 : wd.cell? ⟨bb, offb + k * 3 + 1, none⟩ = some (.int .i64 u.s) := by rw [← hwd]; exact d1
                      replace d2 : wd.cell? ⟨bb, offb + k * 3 + 2, none⟩ = some (.int .i64 u.n) := by rw [← hwd]; exact d2
                      clear hwd
                      have hbbd : bb < wd.heap.size := by omega
                      have hbad : ba < wd.heap.size := by omega
                      go_wp2_with fail
                      go_quiet (fail)
                      obtain ⟨t0, t1, t2⟩ := cell_new3 wd (.int .i64 t.d) (.int .i64 t.s) (.int .i64 t.n) 38
                      have f0 := fun o => frozen_of_row (wd.alloc (.cells #[.int .i64 t.d, .int .i64 t.s, .int .i64 t.n] 38)) wd.heap.size o _ _ (heap_alloc_new wd _)
                      have g0 : Hid (∀ q, u7.ownBlock = some q → q ≠ wd.heap.size) := fun q e => by have := (hown'.out.lt q e).2; omega
                      have e0 := Lib.cell?_alloc_some (Obj.cells #[.int .i64 t.d, .int .i64 t.s, .int .i64 t.n] 38) d0
                      have e1 := Lib.cell?_alloc_some (Obj.cells #[.int .i64 t.d, .int .i64 t.s, .int .i64 t.n] 38) d1
                      have e2 := Lib.cell?_alloc_some (Obj.cells #[.int .i64 t.d, .int .i64 t.s, .int .i64 t.n] 38) d2
                      generalize hwe : (wd.alloc (.cells #[.int .i64 t.d, .int .i64 t.s, .int .i64 t.n] 38)).drewN nq = we
                      have hown' : Hid (we.ownsRow w2.heap.size 38 3 u7 x.length (tcs x)) := by rw [← hwe]; exact owns_drewN (hown'.out.alloc _) _
                      have hb : Below w2.heap.size w2 we := by rw [← hwe]; exact below_dN (hb.alloc hb.size _) _
                      have hsw : wd.heap.size < we.heap.size := by rw [← hwe]; simp
                      replace t0 : we.cell? ⟨wd.heap.size, 0, none⟩ = some (.int .i64 t.d) := by rw [← hwe]; exact t0
                      replace t1 : we.cell? ⟨wd.heap.size, 1, none⟩ = some (.int .i64 t.s) := by rw [← hwe]; exact t1
                      replace t2 : we.cell? ⟨wd.heap.size, 2, none⟩ = some (.int .i64 t.n) := by rw [← hwe]; exact t2
                      have f1 : we.frozen? ⟨wd.heap.size, 0, none⟩ = false := by rw [← hwe]; exact f0 0
                      have f2 : we.frozen? ⟨wd.heap.size, 1, none⟩ = false := by rw [← hwe]; exact f0 1
                      have f3 : we.frozen? ⟨wd.heap.size, 2, none⟩ = false := by rw [← hwe]; exact f0 2
                      replace d0 : we.cell? ⟨bb, offb + k * 3, none⟩ = some (.int .i64 u.d) := by rw [← hwe]; exact e0
                      replace d1 : we.cell? ⟨bb, offb + k * 3 + 1, none⟩ = some (.int .i64 u.s) := by rw [← hwe]; exact e1
                      replace d2 : we.cell? ⟨bb, offb + k * 3 + 2, none⟩ = some (.int .i64 u.n) := by rw [← hwe]; exact e2
                      clear hwe f0 e0 e1 e2 c0 c1 c2
                      have hszw : w2.heap.size ≤ wd.heap.size := hsz2
                      go_wp2_with (at_builtin; refine wpList_append_own _ rfl (.tmp 126) (.tmp 128) 22 rfl w2.heap.size 38 i0 _ 3 24 Try.underlying22 hi hz0 hz1 hz2 rfl (by decide) _ x.length (tcs x) rfl (by repeat (first | exact hown'.out | refine World.ownsRow.alloc ?_ _ | refine owns_drewN ?_ _ | refine owns_setCell ?_ g0.out)) ⟨we.heap.size, 0, none⟩ 1 1 [.int .i64 t.d, .int .i64 t.s, .int .i64 t.n] rfl rfl (news_at _ _ 38 _ (by simp)) (tcs_one [t]) (by unfold maxLen; omega) (by omega) (by simp; omega) ?_; intro v' w3 hown3 hgrow _; have hown3' := Lib.hid hown3; clear hown3)
                      go_roundw
                      case rel =>
                        refine ⟨i + 1, k + 1, x ++ [t], by omega, by omega, by go_num, by go_num, by simp; omega, hinv'.out, ?_, (show Below w2.heap.size w2 _ from by repeat (first | exact hb | refine below_dN ?_ _ | refine Below.alloc ?_ (by first | omega | (simp; omega)) _ | refine Below.setCell ?_ (by show w2.heap.size ≤ wd.heap.size; omega) _)).grown hgrow (by simp; omega) (fun q e => (hown'.out.lt q e).1)⟩
                        rw [tcs_append, List.length_append]; exact hown3'.out
                      case measure => simp [intOf]; omega
                  · have hs3 : (u.s == t.s) = false := by simpa using hs2
                    have hinv' : Hid (x ++ [t] ++ Tally.merge (l.drop (i + 1)) (r.drop (k + 1)) = Tally.merge l r) := by
                      show _ = _
                      rw [← hinv, hld, hrd, Tally.merge_cons, if_neg hlt, if_neg hgt, show Tally.mx t u = t from by unfold Tally.mx; rw [if_neg (by omega)]]; simp
                    clear hinv hld hrd
                    have hd0 : decide (t.d < u.d) = false := by simpa using hlt
                    have hd1 : decide (u.d < t.d) = false := by simpa using hgt
                    have hd2 : decide (t.s < u.s) = false := by simpa using hs1
                    clear hlt hgt hs1
                    clear hs2
                    go_wp2_with fail
                    go_quiet (fail)
                    obtain ⟨q1, rfl⟩ : ∃ q1, q1 = nq := ⟨nq, rfl⟩
                    go_wp2_with fail
                    go_quiet (fail)
                    generalize hwd : (wr.drewN q1).drewN nq = wd
                    have hown' : Hid (wd.ownsRow w2.heap.size 38 3 u7 x.length (tcs x)) := by rw [← hwd]; exact owns_drewN (owns_drewN hown'.out _) _
                    have hb : Below w2.heap.size w2 wd := by rw [← hwd]; exact below_dN (below_dN hb _) _
                    have hsz2 : w2.heap.size ≤ wd.heap.size := hb.size
                    replace c0 : wd.cell? ⟨ba, offa + i * 3, none⟩ = some (.int .i64 t.d) := by rw [← hwd]; exact c0
                    replace c1 : wd.cell? ⟨ba, offa + i * 3 + 1, none⟩ = some (.int .i64 t.s) := by rw [← hwd]; exact c1
                    replace c2 : wd.cell? ⟨ba, offa + i * 3 + 2, none⟩ = some (.int .i64 t.n) := by rw [← hwd]; exact c2
                    replace d0 : wd.cell? ⟨bb, offb + k * 3, none⟩ = some (.int .i64 u.d) := by rw [← hwd]; exact d0
                    replace d1 : wd.cell? ⟨bb, offb + k * 3 + 1, none⟩ = some (.int .i64 u.s) := by rw [← hwd]; exact d1
                    replace d2 : wd.cell? ⟨bb, offb + k * 3 + 2, none⟩ = some (.int .i64 u.n) := by rw [← hwd]; exact d2
                    clear hwd
                    have hbbd : bb < wd.heap.size := by omega
                    have hbad : ba < wd.heap.size := by omega
                    go_wp2_with fail
                    go_quiet (fail)
                    obtain ⟨t0, t1, t2⟩ := cell_new3 wd (.int .i64 t.d) (.int .i64 t.s) (.int .i64 t.n) 38
                    have f0 := fun o => frozen_of_row (wd.alloc (.cells #[.int .i64 t.d, .int .i64 t.s, .int .i64 t.n] 38)) wd.heap.size o _ _ (heap_alloc_new wd _)
                    have g0 : Hid (∀ q, u7.ownBlock = some q → q ≠ wd.heap.size) := fun q e => by have := (hown'.out.lt q e).2; omega
                    have e0 := Lib.cell?_alloc_some (Obj.cells #[.int .i64 t.d, .int .i64 t.s, .int .i64 t.n] 38) d0
                    have e1 := Lib.cell?_alloc_some (Obj.cells #[.int .i64 t.d, .int .i64 t.s, .int .i64 t.n] 38) d1
                    have e2 := Lib.cell?_alloc_some (Obj.cells #[.int .i64 t.d, .int .i64 t.s, .int .i64 t.n] 38) d2
                    generalize hwe : (wd.alloc (.cells #[.int .i64 t.d, .int .i64 t.s, .int .i64 t.n] 38)).drewN nq = we
                    have hown' : Hid (we.ownsRow w2.heap.size 38 3 u7 x.length (tcs x)) := by rw [← hwe]; exact owns_drewN (hown'.out.alloc _) _
                    have hb : Below w2.heap.size w2 we := by rw [← hwe]; exact below_dN (hb.alloc hb.size _) _
                    have hsw : wd.heap.size < we.heap.size := by rw [← hwe]; simp
                    replace t0 : we.cell? ⟨wd.heap.size, 0, none⟩ = some (.int .i64 t.d) := by rw [← hwe]; exact t0
                    replace t1 : we.cell? ⟨wd.heap.size, 1, none⟩ = some (.int .i64 t.s) := by rw [← hwe]; exact t1
                    replace t2 : we.cell? ⟨wd.heap.size, 2, none⟩ = some (.int .i64 t.n) := by rw [← hwe]; exact t2
                    have f1 : we.frozen? ⟨wd.heap.size, 0, none⟩ = false := by rw [← hwe]; exact f0 0
                    have f2 : we.frozen? ⟨wd.heap.size, 1, none⟩ = false := by rw [← hwe]; exact f0 1
                    have f3 : we.frozen? ⟨wd.heap.size, 2, none⟩ = false := by rw [← hwe]; exact f0 2
                    replace d0 : we.cell? ⟨bb, offb + k * 3, none⟩ = some (.int .i64 u.d) := by rw [← hwe]; exact e0
                    replace d1 : we.cell? ⟨bb, offb + k * 3 + 1, none⟩ = some (.int .i64 u.s) := by rw [← hwe]; exact e1
                    replace d2 : we.cell? ⟨bb, offb + k * 3 + 2, none⟩ = some (.int .i64 u.n) := by rw [← hwe]; exact e2
                    clear hwe f0 e0 e1 e2 c0 c1 c2
                    have hszw : w2.heap.size ≤ wd.heap.size := hsz2
                    go_wp2_with (at_builtin; refine wpList_append_own _ rfl (.tmp 126) (.tmp 128) 22 rfl w2.heap.size 38 i0 _ 3 24 Try.underlying22 hi hz0 hz1 hz2 rfl (by decide) _ x.length (tcs x) rfl (by repeat (first | exact hown'.out | refine World.ownsRow.alloc ?_ _ | refine owns_drewN ?_ _ | refine owns_setCell ?_ g0.out)) ⟨we.heap.size, 0, none⟩ 1 1 [.int .i64 t.d, .int .i64 t.s, .int .i64 t.n] rfl rfl (news_at _ _ 38 _ (by simp)) (tcs_one [t]) (by unfold maxLen; omega) (by omega) (by simp; omega) ?_; intro v' w3 hown3 hgrow _; have hown3' := Lib.hid hown3; clear hown3)
                    go_roundw
                    case rel =>
                      refine ⟨i + 1, k + 1, x ++ [t], by omega, by omega, by go_num, by go_num, by simp; omega, hinv'.out, ?_, (show Below w2.heap.size w2 _ from by repeat (first | exact hb | refine below_dN ?_ _ | refine Below.alloc ?_ (by first | omega | (simp; omega)) _ | refine Below.setCell ?_ (by show w2.heap.size ≤ wd.heap.size; omega) _)).grown hgrow (by simp; omega) (fun q e => (hown'.out.lt q e).1)⟩
                      rw [tcs_append, List.length_append]; exact hown3'.out
                    case measure => simp [intOf]; omega
          · have hkm0 : k = m := by omega
            subst hkm0
            have hne : ((k : Int) == (k : Int)) = true := by simp
            have hrd : r.drop k = [] := List.drop_eq_nil_of_le (by rw [G.len]; omega)
            have hinv' : Hid (x ++ [t] ++ Tally.merge (l.drop (i + 1)) (r.drop k) = Tally.merge l r) := by
              show _ = _
              rw [← hinv, hld, hrd, Tally.merge_nil_right, Tally.merge_nil_right]; simp
            clear hinv hld hrd
            go_wp2_with fail
            go_quiet (fail)
            go_wp2_with (at_builtin; refine wpList_append_own _ rfl (.tmp 55) (.tmp 60) 22 rfl w2.heap.size 38 i0 _ 3 24 Try.underlying22 hi hz0 hz1 hz2 rfl (by decide) _ x.length (tcs x) rfl (by repeat (first | exact hown'.out | refine World.ownsRow.alloc ?_ _ | refine owns_drewN ?_ _ | refine owns_setCell ?_ g0.out)) ⟨wr.heap.size, 0, none⟩ 1 1 [.int .i64 t.d, .int .i64 t.s, .int .i64 t.n] rfl rfl (news_at _ _ 38 _ (by simp)) (tcs_one [t]) (by unfold maxLen; omega) (by omega) (by simp; omega) ?_; intro v' w3 hown3 hgrow _; have hown3' := Lib.hid hown3; clear hown3)
            go_roundw
            case rel =>
              refine ⟨i + 1, k, x ++ [t], by omega, by omega, by go_num, rfl, by simp; omega, hinv'.out, ?_, (show Below w2.heap.size w2 _ from by repeat (first | exact hb | refine below_dN ?_ _ | refine Below.alloc ?_ (by first | omega | (simp; omega)) _ | refine Below.setCell ?_ (by show w2.heap.size ≤ wd.heap.size; omega) _)).grown hgrow (by simp; omega) (fun q e => (hown'.out.lt q e).1)⟩
              rw [tcs_append, List.length_append]; exact hown3'.out
            case measure => simp [intOf]; omega
        · have hin0 : i = n := by omega
          subst hin0
          have hld : l.drop i = [] := List.drop_eq_nil_of_le (by rw [H.len]; omega)
          by_cases hkm : k < m
          · obtain ⟨bb, offb, rfl, hbb, hcb⟩ := G2.cells (by omega)
            have hkl : k < r.length := by rw [G.len]; exact hkm
            obtain ⟨d0, d1, d2⟩ := hcb k r[k] (List.getElem?_eq_getElem hkl)
            rw [← hb.cell (p := ⟨bb, _, none⟩) hbb] at d0 d1 d2
            have hrd : r.drop k = r[k] :: r.drop (k + 1) := List.drop_eq_getElem_cons hkl
            generalize r[k] = u at *
            have hkm' : (k : Int) < (m : Int) := by omega
            have hne : ((k : Int) == (m : Int)) = false := by simp; omega
            clear hcb hkl
            have hinv' : Hid (x ++ [u] ++ Tally.merge (l.drop i) (r.drop (k + 1)) = Tally.merge l r) := by
              show _ = _
              rw [← hinv, hld, hrd, Tally.merge_nil_left, Tally.merge_nil_left]; simp
            clear hinv hld hrd
            go_wp2_with fail
            go_quiet (fail)
            go_wp2_with fail
            go_quiet (fail)
            go_wp2_with (at_builtin; refine wpList_append_own _ rfl (.tmp 81) (.tmp 86) 22 rfl w2.heap.size 38 i0 _ 3 24 Try.underlying22 hi hz0 hz1 hz2 rfl (by decide) _ x.length (tcs x) rfl (by repeat (first | exact hown'.out | refine World.ownsRow.alloc ?_ _ | refine owns_drewN ?_ _ | refine owns_setCell ?_ g0.out)) ⟨wr.heap.size, 0, none⟩ 1 1 [.int .i64 u.d, .int .i64 u.s, .int .i64 u.n] rfl rfl (news_at _ _ 38 _ (by simp)) (tcs_one [u]) (by unfold maxLen; omega) (by omega) (by simp; omega) ?_; intro v' w3 hown3 hgrow _; have hown3' := Lib.hid hown3; clear hown3)
            go_roundw
            case rel =>
              refine ⟨i, k + 1, x ++ [u], by omega, by omega, rfl, by go_num, by simp; omega, hinv'.out, ?_, (show Below w2.heap.size w2 _ from by repeat (first | exact hb | refine below_dN ?_ _ | refine Below.alloc ?_ (by first | omega | (simp; omega)) _ | refine Below.setCell ?_ (by show w2.heap.size ≤ wd.heap.size; omega) _)).grown hgrow (by simp; omega) (fun q e => (hown'.out.lt q e).1)⟩
              rw [tcs_append, List.length_append]; exact hown3'.out
            case measure => simp [intOf]; omega
          · have hkm0 : k = m := by omega
            subst hkm0
            have hfin : Hid (Tally.joinSpec l r = (x, 0)) := by
              rw [hld, List.drop_eq_nil_of_le (by rw [G.len]; omega), Tally.merge_nil_left, List.append_nil] at hinv
              show _ = _
              rw [hres.out, hinv]
            clear hinv hld
            go_wp2_with fail
            go_ret2
            refine ⟨u7, by rw [hfin.out]; rfl, ?_, hB2.trans (hb.mono hB2.size)⟩
            rw [hfin.out]
            exact Sl.owns_mono hown'.out hB2.size
    · have hcr' : Tally.chk r = false := by simpa using hcr
      have hE' := Tally.chkE_f hcr'
      have hres : Hid (Tally.joinSpec l r = ([], 150)) := Tally.joinSpec_f (fun h => hcr h.2)
      clear hcr hcr' hcl
      go_enter Try.func20, Try.ntmps20
      go_wp2_with fail
      refine (rcheck_any a n c l _ H).mono ?_
      rintro e w1 ⟨rfl, hb1⟩
      have G1 := G.below hb1 (Nat.le_refl _)
      go_wp2_with fail
      refine (rcheck_any b m d r _ G1).mono ?_
      rintro e w2 ⟨rfl, hb2⟩
      go_wp2_with fail
      go_ret2
      refine ⟨.slice none 0 0, by rw [hres.out]; rfl, ?_, hb1.trans (hb2.mono hb1.size)⟩
      rw [hres.out]
      exact World.ownsRow_nil _ _ _ _
  · have hcl' : Tally.chk l = false := by simpa using hcl
    have hE := Tally.chkE_f hcl'
    have hres : Hid (Tally.joinSpec l r = ([], 150)) := Tally.joinSpec_f (fun h => hcl h.1)
    clear hcl hcl'
    go_enter Try.func20, Try.ntmps20
    go_wp2_with fail
    refine (rcheck_any a n c l _ H).mono ?_
    rintro e w1 ⟨rfl, hb1⟩
    go_wp2_with fail
    go_ret2
    refine ⟨.slice none 0 0, by rw [hres.out]; rfl, ?_, hb1⟩
    rw [hres.out]
    exact World.ownsRow_nil _ _ _ _

end Go.Proofs.Ytlmngdcifappoaa
