/- walks of the tally functions -/
import Derived.Test.YtlmngdcifappoaaA
import Derived.Handy
namespace Go.Proofs.Ytlmngdcifappoaa
open Go.RowKit
open Tally (Tl)

theorem few_any (a b : Option Addr) (n c m d : Nat) (w : World) : Calls Try.prog 11 #[.slice a n c, .slice b m d] w fun e w' => e = .returned (.bool (decide (n ≤ 60) && decide (m ≤ 60))) ∧ w = w' := by
  by_cases h1 : n ≤ 60
  · have hd : Hid ((decide (n ≤ 60) && decide (m ≤ 60)) = decide ((m : Int) ≤ 60)) := by
      show (_ : Bool) = _
      rw [decide_eq_true h1, Bool.true_and, decide_eq_decide]; omega
    go_enter Try.func11, Try.ntmps11
    go_wp2
    go_ret
    exact ⟨by rw [hd.out]; simp, rfl⟩
  · go_enter Try.func11, Try.ntmps11
    go_wp2
    go_ret
    exact ⟨by simp, rfl⟩

theorem device_any (d s n : Int) (w : World) : Calls Try.prog 25 #[.agg #[.int .i64 d, .int .i64 s, .int .i64 n]] w fun e w' => e = .returned (.int .i64 d) ∧ Below w.heap.size w w' := by
  go_enter Try.func25, Try.ntmps25
  go_wp2
  go_ret
  exact ⟨rfl, (Below.refl _ _).alloc (Nat.le_refl _) _⟩

theorem compare_any (x y : Int) (w : World) : Calls Try.prog 31 #[.int .i64 x, .int .i64 y] w fun e w' => e = .returned (.int .i64 (Tally.cmp x y)) ∧ w = w' := by
  have h0 : (x != x) = false := by simp
  have h0' : (y != y) = false := by simp
  by_cases h1 : x < y
  · have hd : Hid (Tally.cmp x y = -1) := by simp [Hid, Tally.cmp, h1]
    go_enter Try.func31, Try.ntmps31
    go_wp2
    go_ret
    exact ⟨by rw [hd.out]; rfl, rfl⟩
  · by_cases h2 : y < x
    · have hd : Hid (Tally.cmp x y = 1) := by simp [Hid, Tally.cmp, h1, h2]
      go_enter Try.func31, Try.ntmps31
      go_wp2
      go_ret
      exact ⟨by rw [hd.out]; rfl, rfl⟩
    · have hd : Hid (Tally.cmp x y = 0) := by simp [Hid, Tally.cmp, h1, h2]
      go_enter Try.func31, Try.ntmps31
      go_wp2
      go_ret
      exact ⟨by rw [hd.out]; rfl, rfl⟩

theorem or27_any (b : Nat) (x y : Int) (w : World) (h0 : w.cell? ⟨b, 0, none⟩ = some (.int .i64 x)) (h1 : w.cell? ⟨b, 1, none⟩ = some (.int .i64 y)) :
    Calls Try.prog 29 #[.slice (some ⟨b, 0, none⟩) 2 2] w fun e w' => e = .returned (.int .i64 (Tally.or2 x y)) ∧ w = w' := by
  by_cases c1 : x = 0
  · subst c1
    by_cases c2 : y = 0
    · subst c2
      go_enter Try.func29, Try.ntmps29
      go_wp2
      refine wp_loop_rounds 3 ?_
      rw [rounds_succ]; go_wp2
      rw [rounds_succ]; go_wp2
      rw [rounds_succ]; go_wp2
      go_ret
      exact ⟨rfl, rfl⟩
    · have hc : (y != 0) = true := by simp [c2]
      have hd : Hid (Tally.or2 0 y = y) := by simp [Hid, Tally.or2]
      go_enter Try.func29, Try.ntmps29
      go_wp2
      refine wp_loop_rounds 3 ?_
      rw [rounds_succ]; go_wp2
      rw [rounds_succ]; go_wp2
      go_ret
      exact ⟨by rw [hd.out]; rfl, rfl⟩
  · have hc : (x != 0) = true := by simp [c1]
    have hd : Hid (Tally.or2 x y = x) := by simp [Hid, Tally.or2, c1]
    go_enter Try.func29, Try.ntmps29
    go_wp2
    refine wp_loop_rounds 3 ?_
    rw [rounds_succ]; go_wp2
    go_ret
    exact ⟨by rw [hd.out]; rfl, rfl⟩

theorem or3_any (b : Nat) (x y : Int) (w : World) (h0 : w.cell? ⟨b, 0, none⟩ = some (.int .i64 x)) (h1 : w.cell? ⟨b, 1, none⟩ = some (.int .i64 y)) :
    Calls Try.prog 30 #[.slice (some ⟨b, 0, none⟩) 2 2] w fun e w' => e = .returned (.int .i64 (Tally.or2 x y)) ∧ w = w' := by
  by_cases c1 : x = 0
  · subst c1
    by_cases c2 : y = 0
    · subst c2
      go_enter Try.func30, Try.ntmps30
      go_wp2
      refine wp_loop_rounds 3 ?_
      rw [rounds_succ]; go_wp2
      rw [rounds_succ]; go_wp2
      rw [rounds_succ]; go_wp2
      go_ret
      exact ⟨rfl, rfl⟩
    · have hc : (y != 0) = true := by simp [c2]
      have hd : Hid (Tally.or2 0 y = y) := by simp [Hid, Tally.or2]
      go_enter Try.func30, Try.ntmps30
      go_wp2
      refine wp_loop_rounds 3 ?_
      rw [rounds_succ]; go_wp2
      rw [rounds_succ]; go_wp2
      go_ret
      exact ⟨by rw [hd.out]; rfl, rfl⟩
  · have hc : (x != 0) = true := by simp [c1]
    have hd : Hid (Tally.or2 x y = x) := by simp [Hid, Tally.or2, c1]
    go_enter Try.func30, Try.ntmps30
    go_wp2
    refine wp_loop_rounds 3 ?_
    rw [rounds_succ]; go_wp2
    go_ret
    exact ⟨by rw [hd.out]; rfl, rfl⟩

theorem below_drewN (w : World) (n B : Nat) : Below B w (w.drewN n) := by
  induction n with
  | zero => exact Below.refl _ _
  | succ n ih => exact ih.drew

set_option maxHeartbeats 400000 in
theorem rcheck_any (a : Option Addr) (n c : Nat) (l : List Tl) (w : World) (H : TS w a n c l) :
    Calls Try.prog 17 #[.slice a n c] w fun e w' => e = .returned (.int .i64 (Tally.chkE l)) ∧ Below w.heap.size w w' := by
  have hle := H.le
  have hmx := H.max
  go_enter Try.func17, Try.ntmps17
  go_wp2
  go_loopw [3] (fun i wr => ∃ (k : Nat) (last : Int), k ≤ n ∧ i = .int .i64 k ∧ (0 < k → ∃ t, l[k-1]? = some t ∧ last = t.d) ∧ (k = 0 → last = -1) ∧ Tally.chkFrom last (l.drop k) = Tally.chk l ∧ Below w.heap.size w wr)
    (fun i _ => n - (intOf i).toNat)
  case atStart => exact ⟨0, -1, Nat.zero_le _, rfl, fun h => absurd h (by omega), fun _ => rfl, rfl, Below.refl _ _⟩
  case round =>
    obtain ⟨k, last, hk, rfl, hp, hz, hinv, hb⟩ := hrel
    by_cases hlt : k < n
    · obtain ⟨b, off, rfl, hbs, hc⟩ := H.cells (by omega)
      have hkl : k < l.length := by rw [H.len]; exact hlt
      obtain ⟨c0, c1, c2⟩ := hc k l[k] (List.getElem?_eq_getElem hkl)
      rw [← hb.cell (p := ⟨b, _, none⟩) hbs] at c0 c1 c2
      rw [List.drop_eq_getElem_cons hkl] at hinv
      have hget : l[k]? = some l[k] := List.getElem?_eq_getElem hkl
      generalize l[k] = t at *
      by_cases hd : Tally.dot t.d t.s = true
      · by_cases hk0 : k = 0
        · have h1 : last = -1 := hz hk0
          subst h1
          subst hk0
          have hdd := Tally.dot_dev hd
          have he : Hid (Tally.chkFrom t.d (l.drop 1) = Tally.chk l) := by rw [Tally.chkFrom_t hd hdd] at hinv; exact hinv
          clear hinv hp hz hc hkl
          have hget' : Hid (l[0]? = some t) := hget
          clear hget
          simp only [Nat.zero_mul, Nat.add_zero] at c0 c1 c2
          go_wp2_with fail
          go_quiet ((go_at_call 28; exact Calls.quiet_of_same ((dot_any _ _ _).mono fun _ _ h => ⟨h.1, h.2.symm⟩)))
          go_wp2
          go_roundw
          case rel => exact ⟨1, t.d, by omega, rfl, fun _ => ⟨t, hget'.out, rfl⟩, fun h => absurd h (by omega), he.out, hb.trans (below_drewN _ _ _)⟩
          case measure => simp [intOf]; omega
        · obtain ⟨u, hu, hlu⟩ := hp (by omega)
          subst hlu
          obtain ⟨d0, d1, d2⟩ := hc (k - 1) u hu
          rw [← hb.cell (p := ⟨b, _, none⟩) hbs] at d0 d1 d2
          have hg0 : (0 : Int) < (k : Int) := by omega
          have hg1 : 0 < k := by omega
          have hw : IntKind.i64.wrap ((k : Int) - 1) = (k : Int) - 1 := IntWalk.i64_in _ (by omega)
          have hn1 : (0 : Int) ≤ (k : Int) - 1 := by omega
          have hn2 : ((k : Int) - 1).toNat = k - 1 := by omega
          have hn3 : (k : Int) - 1 < (n : Int) := by omega
          by_cases hl : t.d ≤ u.d
          · have he : Hid (Tally.chkE l = 150) := Tally.chkE_f (by rw [← hinv, Tally.chkFrom_le hl])
            clear hinv hp hz hc hkl hget hu
            go_wp2_with fail
            go_quiet ((go_at_call 28; exact Calls.quiet_of_same ((dot_any _ _ _).mono fun _ _ h => ⟨h.1, h.2.symm⟩)))
            go_wp2
            go_ret
            exact ⟨by rw [he.out]; rfl, hb.trans (below_drewN _ _ _)⟩
          · have he : Hid (Tally.chkFrom t.d (l.drop (k + 1)) = Tally.chk l) := by rw [Tally.chkFrom_t hd (by omega)] at hinv; exact hinv
            have hget' : Hid (l[k]? = some t) := hget
            clear hinv hp hz hc hkl hget hu
            go_wp2_with fail
            go_quiet ((go_at_call 28; exact Calls.quiet_of_same ((dot_any _ _ _).mono fun _ _ h => ⟨h.1, h.2.symm⟩)))
            go_wp2
            go_roundw
            case rel => exact ⟨k + 1, t.d, by omega, by go_num, fun _ => ⟨t, hget'.out, rfl⟩, fun h => absurd h (by omega), he.out, hb.trans (below_drewN _ _ _)⟩
            case measure => simp [intOf]; omega
      · have hd' : Tally.dot t.d t.s = false := by simpa using hd
        have he : Hid (Tally.chkE l = 150) := Tally.chkE_f (by rw [← hinv, Tally.chkFrom_dot_f hd'])
        clear hinv hd hp hz hc hkl hget
        go_wp2_with fail
        go_quiet ((go_at_call 28; exact Calls.quiet_of_same ((dot_any _ _ _).mono fun _ _ h => ⟨h.1, h.2.symm⟩)))
        go_wp2
        go_ret
        exact ⟨by rw [he.out]; rfl, hb.trans (below_drewN _ _ _)⟩
    · have hkn : k = n := by omega
      subst hkn
      have hc : Hid (Tally.chkE l = 0) := by
        rw [List.drop_eq_nil_of_le (by rw [H.len]; omega)] at hinv
        exact Tally.chkE_t hinv.symm
      clear hinv hp hz
      go_wp2
      go_ret
      exact ⟨by rw [hc.out]; rfl, hb⟩

theorem run_neq38 (t u : Tl) (w : World) : (binOp .neq 38 (.agg #[.int .i64 t.d, .int .i64 t.s, .int .i64 t.n]) (.agg #[.int .i64 u.d, .int .i64 u.s, .int .i64 u.n])).run Try.prog w = .ok (.bool (!Tally.teq t u)) w := by
  rw [run_neq_struct]
  by_cases h1 : t.d = u.d
  · by_cases h2 : t.s = u.s
    · by_cases h3 : t.n = u.n
      · rw [Tally.teq_t (Tally.Tl.ext' h1 h2 h3)]; simp [go_sem, h1, h2, h3]
      · rw [Tally.teq_f (fun e => h3 (by rw [e]))]; simp [go_sem, h1, h2, h3]
    · rw [Tally.teq_f (fun e => h2 (by rw [e]))]; simp [go_sem, h1, h2]
  · rw [Tally.teq_f (fun e => h1 (by rw [e]))]; simp [go_sem, h1]

set_option maxHeartbeats 400000 in
theorem same_any (a b : Option Addr) (n c m d : Nat) (l r : List Tl) (w : World) (H : TS w a n c l) (G : TS w b m d r) :
    Calls Try.prog 18 #[.slice a n c, .slice b m d] w fun e w' => e = .returned (.bool (Tally.same l r)) ∧ Below w.heap.size w w' := by
  have hle := H.le
  have hmx := H.max
  have gle := G.le
  have gmx := G.max
  by_cases hnm : n = m
  · subst hnm
    go_enter Try.func18, Try.ntmps18
    go_wp2
    go_loopw [5] (fun i wr => ∃ (k : Nat), k ≤ n ∧ i = .int .i64 k ∧ Tally.same (l.drop k) (r.drop k) = Tally.same l r ∧ Below w.heap.size w wr)
      (fun i _ => n - (intOf i).toNat)
    case atStart => exact ⟨0, Nat.zero_le _, rfl, rfl, Below.refl _ _⟩
    case round =>
      obtain ⟨k, hk, rfl, hinv, hb⟩ := hrel
      by_cases hlt : k < n
      · obtain ⟨b, off, rfl, hbs, hc⟩ := H.cells (by omega)
        obtain ⟨b', off', rfl, hbs', hc'⟩ := G.cells (by omega)
        have hkl : k < l.length := by rw [H.len]; exact hlt
        have hkr : k < r.length := by rw [G.len]; exact hlt
        obtain ⟨c0, c1, c2⟩ := hc k l[k] (List.getElem?_eq_getElem hkl)
        obtain ⟨d0, d1, d2⟩ := hc' k r[k] (List.getElem?_eq_getElem hkr)
        rw [← hb.cell (p := ⟨b, _, none⟩) hbs] at c0 c1 c2
        rw [← hb.cell (p := ⟨b', _, none⟩) hbs'] at d0 d1 d2
        rw [List.drop_eq_getElem_cons hkl, List.drop_eq_getElem_cons hkr] at hinv
        generalize l[k] = t at *
        generalize r[k] = u at *
        have hlt' : (k : Int) < (n : Int) := by omega
        have h0 : (0 : Int) ≤ (k : Int) := by omega
        have heq := run_neq38 t u
        by_cases e : t = u
        · subst e
          have e' : Tally.teq t t = true := Tally.teq_t rfl
          have he : Hid (Tally.same (l.drop (k + 1)) (r.drop (k + 1)) = Tally.same l r) := by rw [Tally.same_cons] at hinv; exact hinv
          clear hinv hc hc' hkl hkr
          go_wp2_with fail
          go_quiet (fail)
          go_wp2
          go_roundw
          case rel => exact ⟨k + 1, by omega, by go_num, he.out, hb.trans (below_drewN _ _ _)⟩
          case measure => simp [intOf]; omega
        · have he : Hid (Tally.same l r = false) := by rw [← hinv]; exact Tally.same_ne e
          have e' := Tally.teq_f e
          clear hinv hc hc' hkl hkr e
          go_wp2_with fail
          go_quiet (fail)
          go_wp2
          go_ret
          exact ⟨by rw [he.out]; rfl, hb.trans (below_drewN _ _ _)⟩
      · have hkn : k = n := by omega
        subst hkn
        have hc : Hid (Tally.same l r = true) := by
          rw [List.drop_eq_nil_of_le (by rw [H.len]; omega), List.drop_eq_nil_of_le (by rw [G.len]; omega)] at hinv
          exact hinv.symm
        clear hinv
        go_wp2
        go_ret
        exact ⟨by rw [hc.out]; rfl, hb⟩
  · have hc : Hid (Tally.same l r = false) := Tally.same_len (by rw [H.len, G.len]; exact hnm)
    have hne : ((n : Int) != (m : Int)) = true := by simp; omega
    go_enter Try.func18, Try.ntmps18
    go_wp2
    go_ret
    exact ⟨by rw [hc.out]; rfl, Below.refl _ _⟩

end Go.Proofs.Ytlmngdcifappoaa
