/- TallyJoinSpec: the walk -/
import Derived.Test.YtlmngdcifappoaaL
import Derived.Test.YtlmngdcifappoaaI
namespace Go.Proofs.Ytlmngdcifappoaa
open Go.RowKit
open Tally (Tl)

theorem rjoin_t (a b : Option Addr) (n c m d : Nat) (l r : List Tl) (w : World) (H : TS w a n c l) (G : TS w b m d r) (hn : n ≤ 1000) (hm : m ≤ 1000) (y : List Tl) (k : Nat) (er : Int) (hr : Tally.joinSpec l r = (y, er)) (hk : y.length = k) :
    Calls Try.prog 20 #[.slice a n c, .slice b m d] w (TPost y k er w) :=
  tpost_of_ret (rjoin_any a b n c m d l r w H G hn hm) y k er hr hk (Tally.joinSpec_wf H.wf G.wf)

set_option maxHeartbeats 4000000 in
set_option maxRecDepth 100000 in
theorem joinSpec_walk (a0 a1 : Option Addr) (n0 c0 n1 c1 : Nat) (l0 l1 : List Tl) (w : World) (H0 : TS w a0 n0 c0 l0) (H1 : TS w a1 n1 c1 l1) :
    Calls Try.prog 4 #[.slice a0 n0 c0, .slice a1 n1 c1] w (Tr w) := by
  by_cases hn : n0 ≤ 60 ∧ n1 ≤ 60
  · have hf : (decide (n0 ≤ 60) && decide (n1 ≤ 60)) = true := by simp [hn.1, hn.2]
    obtain ⟨x, e1, ex⟩ : ∃ x e1, Hid (Tally.joinSpec l0 l1 = (x, e1)) := ⟨_, _, rfl⟩
    have t3 : (e1 == e1) = true := by simp
    have t4 := Tally.same_self x
    have hn0 := Lib.hid (show n0 ≤ 1000 by omega)
    have hn1 := Lib.hid (show n1 ≤ 1000 by omega)
    go_enter Try.func4, Try.ntmps4
    go_wp2_with fail
    refine (sane_any w).mono ?_
    rintro e w1 ⟨rfl, hb1⟩
    have A1 := H0.below hb1 (Nat.le_refl _)
    have B1 := H1.below hb1 (Nat.le_refl _)
    go_wp2_with fail
    refine (few_any _ _ _ _ _ _ _).mono ?_
    rintro e w2 ⟨rfl, rfl⟩
    go_wp2_with fail
    refine (join_t a0 a1 n0 c0 n1 c1 l0 l1 w1 A1 B1 hn0.out hn1.out x x.length e1 ex.out rfl).mono ?_
    rintro e w2 ⟨ax, cx, rfl, X2, hb2⟩
    have A2 := A1.below hb2 (Nat.le_refl _)
    have B2 := B1.below hb2 (Nat.le_refl _)
    have hB2 := hb1.trans (hb2.mono hb1.size)
    go_wp2_with fail
    refine (rjoin_t a0 a1 n0 c0 n1 c1 l0 l1 w2 A2 B2 hn0.out hn1.out x x.length e1 ex.out rfl).mono ?_
    rintro e w3 ⟨ay, cy, rfl, Y3, hb3⟩
    have X3 := X2.below hb3 (Nat.le_refl _)
    have hB3 := hB2.trans (hb3.mono hB2.size)
    go_wp2_with fail
    refine (same_any ax ay x.length cx x.length cy x x w3 X3 Y3).mono ?_
    rintro e w4 ⟨rfl, hb4⟩
    have hB4 := hB3.trans (hb4.mono hB3.size)
    go_wp2_with fail
    go_ret
    exact ⟨rfl, hB4⟩
  · have hf : (decide (n0 ≤ 60) && decide (n1 ≤ 60)) = false := by simp only [Bool.and_eq_false_iff, decide_eq_false_iff_not]; omega
    go_enter Try.func4, Try.ntmps4
    go_wp2_with fail
    refine (sane_any w).mono ?_
    rintro e w1 ⟨rfl, hb1⟩
    go_wp2_with fail
    refine (few_any _ _ _ _ _ _ _).mono ?_
    rintro e w2 ⟨rfl, rfl⟩
    go_wp2_with fail
    go_ret
    exact ⟨rfl, hb1⟩

end Go.Proofs.Ytlmngdcifappoaa
