/- tally.Add -/
import Derived.Test.YtlmngdcifappoaaC
import Derived.Test.YtlmngdcifappoaaD
namespace Go.Proofs.Ytlmngdcifappoaa
open Go.RowKit
open Tally (Tl)

def tv (t : Tl) : List Value := [.int .i64 t.d, .int .i64 t.s, .int .i64 t.n]
def tcs (l : List Tl) : List Value := l.flatMap tv

theorem tcs_nil : tcs [] = [] := rfl
theorem tcs_cons (t : Tl) (l : List Tl) : tcs (t :: l) = .int .i64 t.d :: .int .i64 t.s :: .int .i64 t.n :: tcs l := rfl
theorem tcs_append (a b : List Tl) : tcs (a ++ b) = tcs a ++ tcs b := by simp [tcs]
theorem tcs_length (l : List Tl) : (tcs l).length = l.length * 3 := by
  induction l with
  | nil => rfl
  | cons t r ih => rw [tcs_cons]; simp [ih]; omega

theorem tcs_take (l : List Tl) : ∀ k, tcs (l.take k) = (tcs l).take (k * 3) := by
  induction l with
  | nil => intro k; simp [tcs_nil]
  | cons t r ih =>
    intro k
    cases k with
    | zero => rfl
    | succ k => rw [List.take_succ_cons, tcs_cons, tcs_cons, ih, show (k + 1) * 3 = k * 3 + 1 + 1 + 1 by omega]; rfl

theorem tcs_drop (l : List Tl) : ∀ k, tcs (l.drop k) = (tcs l).drop (k * 3) := by
  induction l with
  | nil => intro k; simp [tcs_nil]
  | cons t r ih =>
    intro k
    cases k with
    | zero => rfl
    | succ k => rw [List.drop_succ_cons, tcs_cons, ih, show (k + 1) * 3 = k * 3 + 1 + 1 + 1 by omega]; rfl

theorem tcs_get (l : List Tl) : ∀ {i : Nat} {t : Tl}, l[i]? = some t → (tcs l)[i * 3]? = some (.int .i64 t.d) ∧ (tcs l)[i * 3 + 1]? = some (.int .i64 t.s) ∧ (tcs l)[i * 3 + 2]? = some (.int .i64 t.n) := by
  induction l with
  | nil => intro i t h; cases h
  | cons u r ih =>
    intro i t h
    cases i with
    | zero => cases h; exact ⟨rfl, rfl, rfl⟩
    | succ i =>
      have := ih (i := i) (t := t) (by simpa using h)
      rw [tcs_cons, show (i + 1) * 3 = i * 3 + 1 + 1 + 1 by omega]
      exact this

theorem tcs_set (l : List Tl) : ∀ {p : Nat} {t : Tl} (u v : Value), l[p]? = some t → ((tcs l).set (p * 3 + 1) u).set (p * 3 + 2) v = tcs (l.take p) ++ [.int .i64 t.d, u, v] ++ tcs (l.drop (p + 1)) := by
  induction l with
  | nil => intro p t u v h; cases h
  | cons x r ih =>
    intro p t u v h
    cases p with
    | zero => cases h; rfl
    | succ p =>
      have := ih (p := p) (t := t) u v (by simpa using h)
      rw [tcs_cons, show (p + 1) * 3 + 1 = p * 3 + 1 + 1 + 1 + 1 by omega, show (p + 1) * 3 + 2 = p * 3 + 2 + 1 + 1 + 1 by omega, List.take_succ_cons, List.drop_succ_cons, tcs_cons]
      simp only [List.set_cons_succ, this]
      rfl

theorem tcs_one (l : List Tl) : ∀ u ∈ tcs l, u.oneCell' = true := by
  intro u hu
  simp only [tcs, tv, List.mem_flatMap] at hu
  obtain ⟨t, _, hu⟩ := hu
  simp at hu
  rcases hu with rfl | rfl | rfl <;> rfl

theorem TS.reads {w : World} {a : Option Addr} {n c : Nat} {l : List Tl} (h : TS w a n c l) : Sl.Reads w a n c 3 (tcs l) :=
  ⟨by rw [tcs_length, h.len], h.le, by unfold maxLen; have := h.max; omega, h.nil, fun hn => by
    obtain ⟨b, off, e, hb, hc⟩ := h.cells hn
    refine ⟨b, off, e, hb, fun j u hj => ?_⟩
    have hjl := (List.getElem?_eq_some_iff.1 hj).1
    rw [tcs_length] at hjl
    obtain ⟨t, ht⟩ : ∃ t, l[j / 3]? = some t := ⟨_, List.getElem?_eq_getElem (by omega)⟩
    obtain ⟨c0, c1, c2⟩ := hc _ t ht
    obtain ⟨d0, d1, d2⟩ := tcs_get l ht
    have h3 : j = j / 3 * 3 ∨ j = j / 3 * 3 + 1 ∨ j = j / 3 * 3 + 2 := by omega
    rcases h3 with e | e | e
    · rw [e] at hj ⊢; rw [d0] at hj; cases hj; exact c0
    · rw [e] at hj ⊢; rw [d1] at hj; cases hj; exact c1
    · rw [e] at hj ⊢; rw [d2] at hj; cases hj; exact c2⟩

theorem ts_of_reads {w : World} {a : Option Addr} {n c : Nat} {l : List Tl} (h : Sl.Reads w a n c 3 (tcs l)) (hw : Tally.WF l) : TS w a n c l :=
  ⟨by have := h.len; rw [tcs_length] at this; omega, h.le, by have := h.max; unfold maxLen at this; omega, h.nil, fun hn => by
    obtain ⟨b, off, e, hb, hc⟩ := h.cells hn
    refine ⟨b, off, e, hb, fun i t ht => ?_⟩
    obtain ⟨d0, d1, d2⟩ := tcs_get l ht
    exact ⟨hc _ _ d0, hc _ _ d1, hc _ _ d2⟩, hw⟩

/-- a row of tallies of the call's own, as a slice. -/
theorem ts_of_owns {w : World} {base n : Nat} {v : Value} {l : List Tl} (h : w.ownsRow base 38 3 v n (tcs l)) (hw : Tally.WF l) :
    ∃ a c, v = .slice a n c ∧ TS w a n c l ∧ (∀ ad, a = some ad → base ≤ ad.block ∧ ad.block < w.heap.size) := by
  obtain ⟨a, c, e, R, hb⟩ := Sl.of_owns h
  exact ⟨a, c, e, ts_of_reads R hw, hb⟩

/-- a list and an error code. -/
def Ret (B : Nat) (r : List Tl × Int) (w : World) (e : Ending) (w' : World) : Prop :=
  ∃ v, e = .returned (.tuple #[v, .int .i64 r.2]) ∧ w'.ownsRow B 38 3 v r.1.length (tcs r.1) ∧ Below B w w'

theorem cell_new (w : World) (v : Value) (t : TypeId) : (w.alloc (.cells #[v] t)).cell? ⟨w.heap.size, 0, none⟩ = some v := by
  rw [cell_of_row _ _ _ _ _ _ (heap_alloc_new w _)]; rfl
theorem cell_new2 (w : World) (v u : Value) (t : TypeId) : (w.alloc (.cells #[v, u] t)).cell? ⟨w.heap.size, 0, none⟩ = some v ∧ (w.alloc (.cells #[v, u] t)).cell? ⟨w.heap.size, 1, none⟩ = some u :=
  ⟨by rw [cell_of_row _ _ _ _ _ _ (heap_alloc_new w _)]; rfl, by rw [cell_of_row _ _ _ _ _ _ (heap_alloc_new w _)]; rfl⟩

theorem owns_drewN {w : World} {base : Nat} {e : TypeId} {sz : Nat} {v : Value} {n : Nat} {xs : List Value} (h : w.ownsRow base e sz v n xs) (k : Nat) : (w.drewN k).ownsRow base e sz v n xs := by
  induction k with
  | zero => exact h
  | succ k ih => exact ih

set_option maxHeartbeats 2000000 in
theorem add_any (a : Option Addr) (n c : Nat) (l : List Tl) (d s m : Int) (w : World) (H : TS w a n c l) (hn : n ≤ 1000000) :
    Calls Try.prog 14 #[.slice a n c, .agg #[.int .i64 d, .int .i64 s], .int .i64 m] w (Ret w.heap.size (Tally.addSpec l d s m) w) := by
  have hb0 : Below w.heap.size w (w.alloc (.cells #[.int .i64 d, .int .i64 s] 24)) := (Below.refl _ _).alloc (Nat.le_refl _) _
  have H0 := H.below hb0 (Nat.le_refl _)
  obtain ⟨p0, p1⟩ := cell_new2 w (.int .i64 d) (.int .i64 s) 24
  obtain ⟨W0, hW0⟩ : ∃ W0, W0 = w.alloc (.cells #[.int .i64 d, .int .i64 s] 24) := ⟨_, rfl⟩
  have hsz : w.heap.size < W0.heap.size := by rw [hW0]; simp
  rw [← hW0] at hb0 H0 p0 p1
  by_cases hchk : Tally.chk l = true
  · have hE := Tally.chkE_t hchk
    by_cases hdot : Tally.dot d s = true
    · have hs := (Tally.chk_iff.1 hchk).1
      by_cases hhas : Tally.has d l = true
      · obtain ⟨t, ht, htd, hadd⟩ := Tally.addL_there (s := s) (n := m) hs hhas
        have hpl := Tally.pos_lt_of_has hs hhas
        have hchk' := Lib.hid hchk
        have hln := H.len
        have hwf := H.wf t (List.mem_of_getElem? ht)
        by_cases hst : s ≤ t.s
        · have hres : Hid (Tally.addSpec l d s m = ([], 182)) := by
            show _ = _
            simp only [Tally.addSpec, hchk, hdot, if_true, hadd, if_pos hst]
          clear hchk hadd
          go_enter Try.func14, Try.ntmps14
          go_wp2_with fail
          rw [← hW0]
          refine (check_any a n c l _ H0).mono ?_
          rintro e w1 ⟨rfl, hb1⟩
          have q0 := (hb1.cell (p := ⟨w.heap.size, 0, none⟩) hsz).trans p0
          have q1 := (hb1.cell (p := ⟨w.heap.size, 1, none⟩) hsz).trans p1
          have H1 := H0.below hb1 (Nat.le_refl _)
          have hsz1 : w.heap.size < w1.heap.size := Nat.lt_of_lt_of_le hsz hb1.size
          go_wp2_with fail
          refine (within_any _ _ _).mono ?_
          rintro e w2 ⟨rfl, rfl⟩
          go_wp2_with fail
          refine (place_any a n c l _ _ H1 hs hn).mono ?_
          rintro e w2 ⟨rfl, hb2⟩
          have r0 := (hb2.cell (p := ⟨w.heap.size, 0, none⟩) hsz1).trans q0
          have r1 := (hb2.cell (p := ⟨w.heap.size, 1, none⟩) hsz1).trans q1
          have H2 := H1.below hb2 (Nat.le_refl _)
          have hsz2 : w.heap.size < w2.heap.size := Nat.lt_of_lt_of_le hsz1 hb2.size
          go_wp2_with fail
          refine (clone_any a n c _ _ H2.reads (tcs_one l) (by omega)).mono ?_
          rintro e w3 ⟨v, rfl, hown, hb3⟩
          obtain ⟨g, cap, rest, rfl, hgB, hgl, hg, hnc, hcm, _⟩ := Sl.owns_row hown (by omega)
          have s0 := (hb3.cell (p := ⟨w.heap.size, 0, none⟩) hsz2).trans r0
          have s1 := (hb3.cell (p := ⟨w.heap.size, 1, none⟩) hsz2).trans r1
          have hB3 : Below w.heap.size w w3 := ((hb0.trans (hb1.mono hb0.size)).trans (hb2.mono (by omega))).trans (hb3.mono (by omega))
          have k1 : w3.cell? ⟨g, Tally.pos d l * 3 + 1, none⟩ = some (.int .i64 t.s) := (hown.cellAt _ (by omega)).trans (tcs_get l ht).2.1
          have hp1 : (Tally.pos d l : Int) < (n : Int) := by omega
          have hp2 : (0 : Int) ≤ (Tally.pos d l : Int) := by omega
          clear hown hg ht
          go_wp2_with fail
          go_quiet (fail)
          go_wp2
          go_ret2
          refine ⟨.slice none 0 0, by rw [hres.out]; rfl, ?_, hB3.trans (below_drewN _ _ _)⟩
          rw [hres.out]
          exact World.ownsRow_nil _ _ _ _
        · have hres : Hid (Tally.addSpec l d s m = (l.take (Tally.pos d l) ++ [⟨t.d, s, wrap64 (t.n + m)⟩] ++ l.drop (Tally.pos d l + 1), 0)) := by
            show _ = _
            simp only [Tally.addSpec, hchk, hdot, if_true, hadd, if_neg hst]
          clear hchk hadd
          go_enter Try.func14, Try.ntmps14
          go_wp2_with fail
          rw [← hW0]
          refine (check_any a n c l _ H0).mono ?_
          rintro e w1 ⟨rfl, hb1⟩
          have q0 := (hb1.cell (p := ⟨w.heap.size, 0, none⟩) hsz).trans p0
          have q1 := (hb1.cell (p := ⟨w.heap.size, 1, none⟩) hsz).trans p1
          have H1 := H0.below hb1 (Nat.le_refl _)
          have hsz1 : w.heap.size < w1.heap.size := Nat.lt_of_lt_of_le hsz hb1.size
          go_wp2_with fail
          refine (within_any _ _ _).mono ?_
          rintro e w2 ⟨rfl, rfl⟩
          go_wp2_with fail
          refine (place_any a n c l _ _ H1 hs hn).mono ?_
          rintro e w2 ⟨rfl, hb2⟩
          have r0 := (hb2.cell (p := ⟨w.heap.size, 0, none⟩) hsz1).trans q0
          have r1 := (hb2.cell (p := ⟨w.heap.size, 1, none⟩) hsz1).trans q1
          have H2 := H1.below hb2 (Nat.le_refl _)
          have hsz2 : w.heap.size < w2.heap.size := Nat.lt_of_lt_of_le hsz1 hb2.size
          go_wp2_with fail
          refine (clone_any a n c _ _ H2.reads (tcs_one l) (by omega)).mono ?_
          rintro e w3 ⟨v, rfl, hown, hb3⟩
          obtain ⟨g, cap, rest, rfl, hgB, hgl, hg, hnc, hcm, _⟩ := Sl.owns_row hown (by omega)
          have s0 := (hb3.cell (p := ⟨w.heap.size, 0, none⟩) hsz2).trans r0
          have s1 := (hb3.cell (p := ⟨w.heap.size, 1, none⟩) hsz2).trans r1
          have hB3 : Below w.heap.size w w3 := ((hb0.trans (hb1.mono hb0.size)).trans (hb2.mono (by omega))).trans (hb3.mono (by omega))
          have k1 : w3.cell? ⟨g, Tally.pos d l * 3 + 1, none⟩ = some (.int .i64 t.s) := (hown.cellAt _ (by omega)).trans (tcs_get l ht).2.1
          have hp1 : (Tally.pos d l : Int) < (n : Int) := by omega
          have hp2 : (0 : Int) ≤ (Tally.pos d l : Int) := by omega
          have k2 : w3.cell? ⟨g, Tally.pos d l * 3 + 2, none⟩ = some (.int .i64 t.n) := (hown.cellAt _ (by omega)).trans (tcs_get l ht).2.2
          have f1 := hown.frozenAt (Tally.pos d l * 3 + 1)
          have f2 := hown.frozenAt (Tally.pos d l * 3 + 2)
          have hst' : t.s < s := by omega
          have hown1 := Lib.hid hown
          have ht' := Lib.hid ht
          have hgg : ¬ g = w.heap.size := by omega
          clear hown hg ht hst
          go_wp2_with fail
          go_quiet (fail)
          go_wp2
          go_ret2
          have hown2 := (((owns_drewN hown1.out nq).stored (Tally.pos d l * 3 + 1) (.int .i64 s)).1.stored (Tally.pos d l * 3 + 2) (.int .i64 (wrap64 (t.n + m)))).1
          refine ⟨.slice (some ⟨g, 0, none⟩) n cap, by rw [hres.out]; rfl, ?_, ((hB3.trans (below_drewN _ _ _)).setCell (p := ⟨g, _, none⟩) (by show w.heap.size ≤ g; omega) _).setCell (p := ⟨g, _, none⟩) (by show w.heap.size ≤ g; omega) _⟩
          rw [hres.out]
          have e1 : (l.take (Tally.pos d l) ++ [(⟨t.d, s, wrap64 (t.n + m)⟩ : Tl)] ++ l.drop (Tally.pos d l + 1)).length = n := by simp; omega
          show World.ownsRow _ w.heap.size 38 3 _ (l.take (Tally.pos d l) ++ [(⟨t.d, s, wrap64 (t.n + m)⟩ : Tl)] ++ l.drop (Tally.pos d l + 1)).length (tcs (l.take (Tally.pos d l) ++ [(⟨t.d, s, wrap64 (t.n + m)⟩ : Tl)] ++ l.drop (Tally.pos d l + 1)))
          rw [e1, tcs_append, tcs_append]
          rw [tcs_set l _ _ ht'.out] at hown2
          exact Sl.owns_mono hown2 (by omega)
      · have hhas' : Tally.has d l = false := by simpa using hhas
        have hres : Hid (Tally.addSpec l d s m = (l.take (Tally.pos d l) ++ [⟨d, s, m⟩] ++ l.drop (Tally.pos d l), 0)) := by
          show _ = _
          simp only [Tally.addSpec, hchk, hdot, if_true, Tally.addL_new hs hhas']
        have hple := Tally.pos_le d l
        have hchk' := Lib.hid hchk
        clear hchk hhas
        go_enter Try.func14, Try.ntmps14
        go_wp2_with fail
        rw [← hW0]
        refine (check_any a n c l _ H0).mono ?_
        rintro e w1 ⟨rfl, hb1⟩
        have q0 := (hb1.cell (p := ⟨w.heap.size, 0, none⟩) hsz).trans p0
        have q1 := (hb1.cell (p := ⟨w.heap.size, 1, none⟩) hsz).trans p1
        have H1 := H0.below hb1 (Nat.le_refl _)
        have hsz1 : w.heap.size < w1.heap.size := Nat.lt_of_lt_of_le hsz hb1.size
        go_wp2_with fail
        refine (within_any _ _ _).mono ?_
        rintro e w2 ⟨rfl, rfl⟩
        go_wp2_with fail
        refine (place_any a n c l _ _ H1 hs hn).mono ?_
        rintro e w2 ⟨rfl, hb2⟩
        have r0 := (hb2.cell (p := ⟨w.heap.size, 0, none⟩) hsz1).trans q0
        have r1 := (hb2.cell (p := ⟨w.heap.size, 1, none⟩) hsz1).trans q1
        have H2 := H1.below hb2 (Nat.le_refl _)
        have hsz2 : w.heap.size < w2.heap.size := Nat.lt_of_lt_of_le hsz1 hb2.size
        go_wp2_with fail
        refine (clone_any a n c _ _ H2.reads (tcs_one l) (by omega)).mono ?_
        rintro e w3 ⟨v, rfl, hown, hb3⟩
        have s0 := (hb3.cell (p := ⟨w.heap.size, 0, none⟩) hsz2).trans r0
        have s1 := (hb3.cell (p := ⟨w.heap.size, 1, none⟩) hsz2).trans r1
        have hB3 : Below w.heap.size w w3 := ((hb0.trans (hb1.mono hb0.size)).trans (hb2.mono (by omega))).trans (hb3.mono (by omega))
        have hvl := hown.lt
        have hown0 := Lib.hid hown
        clear hown hvl
        go_wp2_with fail
        have hvb : (w3.alloc (.cells #[.int .i64 d, .int .i64 s, .int .i64 m] 38)).heap[w3.heap.size]? = some (.cells ([.int .i64 d, .int .i64 s, .int .i64 m] : List Value).toArray 38 (0, 0)) := heap_alloc_new w3 _
        refine (insert_any w2.heap.size v n (Tally.pos d l) (tcs l) [.int .i64 d, .int .i64 s, .int .i64 m] _ (hown0.out.alloc _) (by rw [← H.len]; exact hple) (tcs_one l) w3.heap.size hvb
          (fun k hk e => by subst e; exact absurd (hown0.out.lt _ hk).2 (Nat.lt_irrefl _)) rfl (tcs_one [⟨d, s, m⟩]) (by have := hb3.size; simp; omega) (by omega)).mono ?_
        rintro e w4 ⟨v', rfl, hown', hb4⟩
        have hown1 := Lib.hid hown'
        clear hown'
        go_wp2_with fail
        go_ret2
        refine ⟨v', by rw [hres.out]; rfl, ?_, (hB3.alloc hB3.size _).trans (hb4.mono (by omega))⟩
        rw [hres.out]
        have hl := H.len
        have e1 : (l.take (Tally.pos d l) ++ [(⟨d, s, m⟩ : Tl)] ++ l.drop (Tally.pos d l)).length = n + 1 := by simp; omega
        show w4.ownsRow w.heap.size 38 3 v' (l.take (Tally.pos d l) ++ [(⟨d, s, m⟩ : Tl)] ++ l.drop (Tally.pos d l)).length (tcs (l.take (Tally.pos d l) ++ [(⟨d, s, m⟩ : Tl)] ++ l.drop (Tally.pos d l)))
        rw [e1, tcs_append, tcs_append, tcs_take, tcs_drop]
        exact Sl.owns_mono hown1.out (by omega)
    · have hdot' : Tally.dot d s = false := by simpa using hdot
      have hres : Hid (Tally.addSpec l d s m = ([], 150)) := by
        show _ = _
        simp only [Tally.addSpec, hchk, hdot', if_true, Bool.false_eq_true, if_false]
      clear hchk hdot
      go_enter Try.func14, Try.ntmps14
      go_wp2_with fail
      rw [← hW0]
      refine (check_any a n c l _ H0).mono ?_
      rintro e w1 ⟨rfl, hb1⟩
      have q0 := (hb1.cell (p := ⟨w.heap.size, 0, none⟩) hsz).trans p0
      have q1 := (hb1.cell (p := ⟨w.heap.size, 1, none⟩) hsz).trans p1
      go_wp2_with fail
      refine (within_any _ _ _).mono ?_
      rintro e w2 ⟨rfl, rfl⟩
      go_wp2_with fail
      go_ret2
      refine ⟨.slice none 0 0, by rw [hres.out]; rfl, ?_, hb0.trans (hb1.mono hb0.size)⟩
      rw [hres.out]
      exact World.ownsRow_nil _ _ _ _
  · have hchk' : Tally.chk l = false := by simpa using hchk
    have hE := Tally.chkE_f hchk'
    have hres : Hid (Tally.addSpec l d s m = ([], 150)) := by
      show _ = _
      simp only [Tally.addSpec, hchk', Bool.false_eq_true, if_false]
    clear hchk hchk'
    go_enter Try.func14, Try.ntmps14
    go_wp2_with fail
    rw [← hW0]
    refine (check_any a n c l _ H0).mono ?_
    rintro e w1 ⟨rfl, hb1⟩
    go_wp2_with fail
    go_ret2
    refine ⟨.slice none 0 0, by rw [hres.out]; rfl, ?_, hb0.trans (hb1.mono hb0.size)⟩
    rw [hres.out]
    exact World.ownsRow_nil _ _ _ _

end Go.Proofs.Ytlmngdcifappoaa
