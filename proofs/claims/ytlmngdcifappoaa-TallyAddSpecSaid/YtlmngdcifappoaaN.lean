/- TallyAddSpec: the walk -/
import Derived.Test.YtlmngdcifappoaaL
import Derived.Test.YtlmngdcifappoaaR
namespace Go.Proofs.Ytlmngdcifappoaa
open Go.RowKit
open Tally (Tl)

set_option maxHeartbeats 4000000 in
set_option maxRecDepth 100000 in
theorem addSpec_walk (a : Option Addr) (n c : Nat) (l : List Tl) (da sa m : Int) (w : World) (H : TS w a n c l) (i1 : InI da) (i2 : InI sa) (i5 : InI m) :
    Calls Try.prog 3 #[.slice a n c, .agg #[.int .i64 da, .int .i64 sa], .int .i64 m] w (Tr w) := by
  have hb0 : Below w.heap.size w (w.alloc (.cells #[.int .i64 da, .int .i64 sa] 24)) := (Below.refl _ _).alloc (Nat.le_refl _) _
  have BA0 := Box2.new w da sa 24
  have T0 := H.below hb0 (Nat.le_refl _)
  obtain ⟨W0, hW0⟩ : ∃ W0, W0 = w.alloc (.cells #[.int .i64 da, .int .i64 sa] 24) := ⟨_, rfl⟩
  rw [← hW0] at hb0 BA0 T0
  by_cases hn : n ≤ 60
  · have hf : (decide (n ≤ 60) && decide (0 ≤ 60)) = true := by simp [hn]
    obtain ⟨x, e1, ex⟩ : ∃ x e1, Hid (Tally.addSpec l da sa m = (x, e1)) := ⟨_, _, rfl⟩
    obtain ⟨v, e2, ev⟩ : ∃ v e2, Hid (Tally.valueSpec l = (v, e2)) := ⟨_, _, rfl⟩
    have t0 : (Tally.chkE l == Tally.chkE l) = true := by simp
    have t1 : (v == v) = true := by simp
    have t2 : (e2 == e2) = true := by simp
    have t3 : (e1 == e1) = true := by simp
    have t4 := Tally.same_self x
    go_enter Try.func3, Try.ntmps3
    go_wp2_with fail
    rw [← hW0]
    refine (sane_any W0).mono ?_
    rintro e w1 ⟨rfl, hb1⟩
    have BA1 := BA0.below hb1
    have T1 := T0.below hb1 (Nat.le_refl _)
    have hB1 := hb0.trans (hb1.mono hb0.size)
    go_wp2_with fail
    refine (few_any _ _ _ _ _ _ _).mono ?_
    rintro e w2 ⟨rfl, rfl⟩
    go_wp2_with fail
    refine (value_t a n c l w1 T1 _ _ ev.out).mono ?_
    rintro e w2 ⟨rfl, hb2⟩
    have T2 := T1.below hb2 (Nat.le_refl _)
    have BA2 := BA1.below hb2
    have hB2 := hB1.trans (hb2.mono hB1.size)
    go_wp2_with fail
    refine (rvalue_t a n c l w2 T2 _ _ ev.out).mono ?_
    rintro e w3 ⟨rfl, hb3⟩
    have T3 := T2.below hb3 (Nat.le_refl _)
    have BA3 := BA2.below hb3
    have hB3 := hB2.trans (hb3.mono hB2.size)
    have p0 := BA3.c0; have p1 := BA3.c1
    go_wp2_with fail
    refine (add_t a n c l da sa m w3 T3 (by omega) i1 i2 i5 x x.length e1 ex.out rfl).mono ?_
    rintro e w4 ⟨ax, cx, rfl, TX4, hb4⟩
    have T4 := T3.below hb4 (Nat.le_refl _)
    have BA4 := BA3.below hb4
    have hB4 := hB3.trans (hb4.mono hB3.size)
    have p0 := BA4.c0; have p1 := BA4.c1
    go_wp2_with fail
    refine (radd_t a n c l da sa m w4 T4 (by omega) i1 i2 i5 x x.length e1 ex.out rfl).mono ?_
    rintro e w5 ⟨ay, cy, rfl, TY5, hb5⟩
    have T5 := T4.below hb5 (Nat.le_refl _)
    have TX5 := TX4.below hb5 (Nat.le_refl _)
    have hB5 := hB4.trans (hb5.mono hB4.size)
    go_wp2_with fail
    refine (check_any a n c l w5 T5).mono ?_
    rintro e w6 ⟨rfl, hb6⟩
    have T6 := T5.below hb6 (Nat.le_refl _)
    have TX6 := TX5.below hb6 (Nat.le_refl _)
    have TY6 := TY5.below hb6 (Nat.le_refl _)
    have hB6 := hB5.trans (hb6.mono hB5.size)
    go_wp2_with fail
    refine (rcheck_any a n c l w6 T6).mono ?_
    rintro e w7 ⟨rfl, hb7⟩
    have TX7 := TX6.below hb7 (Nat.le_refl _)
    have TY7 := TY6.below hb7 (Nat.le_refl _)
    have hB7 := hB6.trans (hb7.mono hB6.size)
    go_wp2_with fail
    refine (same_any ax ay x.length cx x.length cy x x w7 TX7 TY7).mono ?_
    rintro e w8 ⟨rfl, hb8⟩
    have hB8 := hB7.trans (hb8.mono hB7.size)
    go_wp2_with fail
    go_ret
    exact ⟨rfl, hB8⟩
  · have hf : (decide (n ≤ 60) && decide (0 ≤ 60)) = false := by simp [hn]
    go_enter Try.func3, Try.ntmps3
    go_wp2_with fail
    rw [← hW0]
    refine (sane_any W0).mono ?_
    rintro e w1 ⟨rfl, hb1⟩
    go_wp2_with fail
    refine (few_any _ _ _ _ _ _ _).mono ?_
    rintro e w2 ⟨rfl, rfl⟩
    go_wp2_with fail
    go_ret
    exact ⟨rfl, hb0.trans (hb1.mono hb0.size)⟩

end Go.Proofs.Ytlmngdcifappoaa
