/- TallyLater: the walk -/
import Derived.Test.YtlmngdcifappoaaL
import Derived.Test.YtlmngdcifappoaaTallyPlain4
namespace Go.Proofs.Ytlmngdcifappoaa
open Go.RowKit
open Tally (Tl)

theorem below_dN {B : Nat} {a w : World} (h : Below B a w) (k : Nat) : Below B a (w.drewN k) := h.trans (below_drewN _ _ _)

theorem run_eql38 (t u : Tl) (w : World) : (binOp .eql 38 (.agg #[.int .i64 t.d, .int .i64 t.s, .int .i64 t.n]) (.agg #[.int .i64 u.d, .int .i64 u.s, .int .i64 u.n])).run Try.prog w = .ok (.bool (Tally.teq t u)) w := by
  rw [run_eql_struct]
  by_cases h1 : t.d = u.d
  · by_cases h2 : t.s = u.s
    · by_cases h3 : t.n = u.n
      · rw [Tally.teq_t (Tally.Tl.ext' h1 h2 h3)]; simp [go_sem, h1, h2, h3]
      · rw [Tally.teq_f (fun e => h3 (by rw [e]))]; simp [go_sem, h1, h2, h3]
    · rw [Tally.teq_f (fun e => h2 (by rw [e]))]; simp [go_sem, h1, h2]
  · rw [Tally.teq_f (fun e => h1 (by rw [e]))]; simp [go_sem, h1]

set_option maxHeartbeats 4000000 in
set_option maxRecDepth 100000 in
theorem later_walk (a : Option Addr) (n c : Nat) (l : List Tl) (da sa m : Int) (w : World) (H : TS w a n c l) (i1 : InI da) (i2 : InI sa) (i5 : InI m) :
    Calls Try.prog 7 #[.slice a n c, .agg #[.int .i64 da, .int .i64 sa], .int .i64 m] w (Tr w) := by
  have hb0 : Below w.heap.size w (w.alloc (.cells #[.int .i64 da, .int .i64 sa] 24)) := (Below.refl _ _).alloc (Nat.le_refl _) _
  have BA0 := Box2.new w da sa 24
  have T0 := H.below hb0 (Nat.le_refl _)
  have hbw : w.heap.size ≤ w.heap.size := Nat.le_refl _
  obtain ⟨W0, hW0⟩ : ∃ W0, W0 = w.alloc (.cells #[.int .i64 da, .int .i64 sa] 24) := ⟨_, rfl⟩
  rw [← hW0] at hb0 BA0 T0
  by_cases hn : n ≤ 60
  · have hf : (decide (n ≤ 60) && decide (0 ≤ 60)) = true := by simp [hn]
    by_cases hx : (Tally.addSpec l da sa m).2 = 0
    · obtain ⟨x, hadd, hcl, hdot, ex⟩ := Tally.addSpec_ok hx
      obtain ⟨ej, hmem, hseq, hoth⟩ := Tally.later hcl hdot hadd
      have hmem' := Lib.hid hmem
      have hseq' := Lib.hid hseq
      have hoth' := Lib.hid hoth
      have ex' := Lib.hid ex
      have ej' := Lib.hid ej
      have hxl := Tally.addSpec_length l da sa m
      rw [ex] at hxl
      rw [H.len] at hxl
      have hS := Tally.same_self x
      have hxl' : x.length ≤ n + 1 := hxl
      have hpos : 0 < x.length := by omega
      clear hx hadd hcl hdot ex ej hmem hseq hoth hxl
      go_enter Try.func7, Try.ntmps7
      go_wp2_with fail
      rw [← hW0]
      refine (sane_any W0).mono ?_
      rintro e w1 ⟨rfl, hb1⟩
      have BA1 := BA0.below hb1
      have T1 := T0.below hb1 (Nat.le_refl _)
      have hB1 := hb0.trans (hb1.mono hb0.size)
      have p0 := BA1.c0; have p1 := BA1.c1
      go_wp2_with fail
      refine (few_any _ _ _ _ _ _ _).mono ?_
      rintro e w2 ⟨rfl, rfl⟩
      go_wp2_with fail
      refine (add_t a n c l da sa m w1 T1 (by omega) i1 i2 i5 x x.length 0 ex'.out rfl).mono ?_
      rintro e w2 ⟨ax, cx, rfl, TX2, hb2⟩
      have T2 := T1.below hb2 (Nat.le_refl _)
      have BA2 := BA1.below hb2
      have hB2 := hB1.trans (hb2.mono hB1.size)
      go_wp2_with fail
      refine (join_t a ax n c x.length cx l x w2 T2 TX2 (by omega) (by omega) x x.length 0 ej'.out rfl).mono ?_
      rintro e w3 ⟨ay, cy, rfl, TY3, hb3⟩
      have T3 := T2.below hb3 (Nat.le_refl _)
      have TX3 := TX2.below hb3 (Nat.le_refl _)
      have BA3 := BA2.below hb3
      have hB3 := hB2.trans (hb3.mono hB2.size)
      go_wp2_with fail
      refine (same_any ax ay x.length cx x.length cy x x w3 TX3 TY3).mono ?_
      rintro e w4 ⟨rfl, hb4⟩
      have T4 := T3.below hb4 (Nat.le_refl _)
      have TX4 := TX3.below hb4 (Nat.le_refl _)
      have BA4 := BA3.below hb4
      have hB4 := hB3.trans (hb4.mono hB3.size)
      clear T0 T1 T2 T3 TX2 TX3 TY3 BA0 BA1 BA2 BA3 p0 p1 hB1 hB2 hB3 H
      have hle := T4.le
      have hmx := T4.max
      have gle := TX4.le
      have gmx := TX4.max
      go_wp2_with fail
      go_loopw [11, 12] (fun ov iv wr => ∃ (k o : Nat), k ≤ x.length ∧ iv = .int .i64 k ∧ ov = .int .i64 o ∧ o + Tally.oth da (x.drop k) + 1 = x.length ∧ Below w4.heap.size w4 wr)
        (fun _ i _ => x.length - (intOf i).toNat)
      case atStart => exact ⟨0, 0, Nat.zero_le _, rfl, rfl, by simpa using hoth'.out, Below.refl _ _⟩
      case round =>
        obtain ⟨k, o, hk, rfl, rfl, hinv, hb⟩ := hrel
        by_cases hlt : k < x.length
        · obtain ⟨bx, offx, rfl, hbx, hc⟩ := TX4.cells (by omega)
          obtain ⟨c0, c1, c2⟩ := hc k x[k] (List.getElem?_eq_getElem hlt)
          rw [← hb.cell (p := ⟨bx, _, none⟩) hbx] at c0 c1 c2
          have q0 := (BA4.below hb).c0
          have q1 := (BA4.below hb).c1
          rw [List.drop_eq_getElem_cons hlt] at hinv
          have htx : x[k] ∈ x := List.getElem_mem hlt
          generalize x[k] = t at *
          have hlt' : (k : Int) < (x.length : Int) := by omega
          by_cases hd : t.d = da
          · have hne : (t.d != da) = false := by simpa using hd
            have hsq := hseq'.out t htx hd
            have hne2 : (t.s != sa) = false := by simpa using hsq
            have hinv' : Hid (o + Tally.oth da (x.drop (k + 1)) + 1 = x.length) := by
              show _ = _
              rw [show Tally.oth da (t :: x.drop (k + 1)) = 0 + Tally.oth da (x.drop (k + 1)) from by simp only [Tally.oth]; rw [if_pos hd]] at hinv
              omega
            clear hinv hc htx hd hsq
            go_wp2_with fail
            go_quiet (fail)
            go_wp2_with fail
            go_quiet (fail)
            go_wp2_with fail
            go_roundw
            case rel => exact ⟨k + 1, o, by omega, by go_num, rfl, hinv'.out, below_dN hb _⟩
            case measure => simp [intOf]; omega
          · have hne : (t.d != da) = true := by simpa using hd
            have htl := Lib.hid (hmem'.out t htx hd)
            have hinv' : Hid (o + 1 + Tally.oth da (x.drop (k + 1)) + 1 = x.length) := by
              show _ = _
              rw [show Tally.oth da (t :: x.drop (k + 1)) = 1 + Tally.oth da (x.drop (k + 1)) from by simp only [Tally.oth]; rw [if_neg hd]] at hinv
              omega
            have ho : (o : Int) + 1 ≤ 100 := by have := hinv'.out; omega
            clear hinv hc htx hd
            go_wp2_with fail
            go_quiet (fail)
            generalize hwd : wr.drewN nq = wd
            have hb' : Below w4.heap.size w4 wd := by rw [← hwd]; exact below_dN hb _
            replace c0 : wd.cell? ⟨bx, offx + k * 3, none⟩ = some (.int .i64 t.d) := by rw [← hwd]; exact c0
            replace c1 : wd.cell? ⟨bx, offx + k * 3 + 1, none⟩ = some (.int .i64 t.s) := by rw [← hwd]; exact c1
            replace c2 : wd.cell? ⟨bx, offx + k * 3 + 2, none⟩ = some (.int .i64 t.n) := by rw [← hwd]; exact c2
            clear hwd hb q0 q1
            go_wp2_with fail
            go_loopw [13, 14] (fun mv jv wq => ∃ (j : Nat) (met : Bool), j ≤ n ∧ jv = .int .i64 j ∧ mv = .bool met ∧ (met = true ∨ t ∈ l.drop j) ∧ Below wd.heap.size wd wq)
              (fun _ j _ => n - (intOf j).toNat)
            case atStart => exact ⟨0, false, Nat.zero_le _, rfl, rfl, .inr htl.out, Below.refl _ _⟩
            case round =>
              obtain ⟨j, met, hj, rfl, rfl, hmt, hbq⟩ := hrel
              by_cases hjn : j < n
              · have hjn' : (j : Int) < (n : Int) := by omega
                have hjl : j < l.length := by rw [T4.len]; exact hjn
                cases met with
                | true =>
                  clear hmt
                  go_wp2_with fail
                  go_quiet (fail)
                  go_wp2_with fail
                  go_roundw
                  case rel => exact ⟨j + 1, true, by omega, by go_num, rfl, .inl rfl, below_dN hbq _⟩
                  case measure => simp [intOf]; omega
                | false =>
                  obtain ⟨bl, offl, rfl, hbl, hcl⟩ := T4.cells (by omega)
                  obtain ⟨d0, d1, d2⟩ := hcl j l[j] (List.getElem?_eq_getElem hjl)
                  rw [← hb'.cell (p := ⟨bl, _, none⟩) hbl] at d0 d1 d2
                  rw [← hbq.cell (p := ⟨bl, _, none⟩) (Nat.lt_of_lt_of_le hbl hb'.size)] at d0 d1 d2
                  rw [← hbq.cell (p := ⟨bx, _, none⟩) (Nat.lt_of_lt_of_le hbx hb'.size)] at c0 c1 c2
                  rw [List.drop_eq_getElem_cons hjl] at hmt
                  generalize l[j] = u at *
                  have heq := run_eql38 u t
                  have hmt' : Hid (Tally.teq u t = true ∨ t ∈ l.drop (j + 1)) := by
                    show _ ∨ _
                    rcases hmt with h | h
                    · cases h
                    · rcases List.mem_cons.1 h with h | h
                      · exact .inl (Tally.teq_t h.symm)
                      · exact .inr h
                  clear hmt hcl hjl
                  go_wp2_with fail
                  go_quiet (fail)
                  go_wp2_with fail
                  go_roundw
                  case rel => exact ⟨j + 1, Tally.teq u t, by omega, by go_num, rfl, hmt'.out, below_dN hbq _⟩
                  case measure => simp [intOf]; omega
              · have hjn0 : j = n := by omega
                subst hjn0
                obtain rfl : met = true := by
                  rcases hmt with h | h
                  · exact h
                  · rw [List.drop_eq_nil_of_le (by rw [T4.len]; omega)] at h; cases h
                clear hmt
                go_wp2_with fail
                go_roundw
                case rel => exact ⟨k + 1, o + 1, by omega, by go_num, by go_num, hinv'.out, hb'.trans (hbq.mono hb'.size)⟩
                case measure => simp [intOf]; omega
        · have hkn : k = x.length := by omega
          subst hkn
          have ho : ((o : Int) == (x.length : Int) - 1) = true := by
            rw [List.drop_eq_nil_of_le (Nat.le_refl _)] at hinv
            simp [Tally.oth] at hinv ⊢; omega
          clear hinv
          go_wp2_with fail
          go_ret
          exact ⟨by first | rfl | simp [ho], hB4.trans (hb.mono hB4.size)⟩
    · obtain ⟨e1, ex⟩ : ∃ e1, Hid (Tally.addSpec l da sa m = ([], e1)) := ⟨(Tally.addSpec l da sa m).2, by show _ = _; rw [← Tally.addSpec_bad hx]⟩
      have h1 : (e1 != 0) = true := by rw [ex.out] at hx; simpa using hx
      clear hx
      go_enter Try.func7, Try.ntmps7
      go_wp2_with fail
      rw [← hW0]
      refine (sane_any W0).mono ?_
      rintro e w1 ⟨rfl, hb1⟩
      have BA1 := BA0.below hb1
      have T1 := T0.below hb1 (Nat.le_refl _)
      have hB1 := hb0.trans (hb1.mono hb0.size)
      have p0 := BA1.c0; have p1 := BA1.c1
      go_wp2_with fail
      refine (few_any _ _ _ _ _ _ _).mono ?_
      rintro e w2 ⟨rfl, rfl⟩
      go_wp2_with fail
      refine (add_t a n c l da sa m w1 T1 (by omega) i1 i2 i5 [] 0 e1 ex.out rfl).mono ?_
      rintro e w2 ⟨ax, cx, rfl, TX2, hb2⟩
      have hB2 := hB1.trans (hb2.mono hB1.size)
      go_wp2_with fail
      go_ret
      exact ⟨rfl, hB2⟩
  · have hf : (decide (n ≤ 60) && decide (0 ≤ 60)) = false := by simp [hn]
    go_enter Try.func7, Try.ntmps7
    go_wp2_with fail
    rw [← hW0]
    refine (sane_any W0).mono ?_
    rintro e w1 ⟨rfl, hb1⟩
    go_wp2_with fail
    refine (few_any _ _ _ _ _ _ _).mono ?_
    rintro e w2 ⟨rfl, rfl⟩
    go_wp2_with fail
    go_ret
    exact ⟨rfl, hb0.trans (hb1.mono hb0.size)⟩

end Go.Proofs.Ytlmngdcifappoaa
