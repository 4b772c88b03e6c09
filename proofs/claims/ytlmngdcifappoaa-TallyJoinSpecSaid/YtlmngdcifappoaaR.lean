/- the reference's Value -/
import Derived.Test.YtlmngdcifappoaaF
import Derived.Test.YtlmngdcifappoaaG
namespace Go.Proofs.Ytlmngdcifappoaa
open Go.RowKit
open Tally (Tl)

set_option maxHeartbeats 400000 in
theorem rvalue_any (a : Option Addr) (n c : Nat) (l : List Tl) (w : World) (H : TS w a n c l) :
    Calls Try.prog 13 #[.slice a n c] w (RetN (Tally.valueSpec l) w) := by
  by_cases hchk : Tally.chk l = true
  · have hE := Tally.chkE_t hchk
    have hres : Hid (Tally.valueSpec l = (Tally.value l, 0)) := by simp [Hid, Tally.valueSpec, hchk]
    clear hchk
    go_enter Try.func13, Try.ntmps13
    go_wp2_with fail
    refine (rcheck_any a n c l _ H).mono ?_
    rintro e w1 ⟨rfl, hb1⟩
    have H1 := H.below hb1 (Nat.le_refl _)
    have hle := H1.le
    have hmx := H1.max
    go_wp2_with fail
    go_loopw [5, 6] (fun sv iv wr => ∃ (k : Nat) (s : Int), k ≤ n ∧ iv = .int .i64 k ∧ sv = .int .i64 s ∧ Tally.sumFrom s (l.drop k) = Tally.value l ∧ Below w1.heap.size w1 wr)
      (fun _ i _ => n - (intOf i).toNat)
    case atStart => exact ⟨0, 0, Nat.zero_le _, rfl, rfl, rfl, Below.refl _ _⟩
    case round =>
      obtain ⟨k, s, hk, rfl, rfl, hinv, hb⟩ := hrel
      by_cases hlt : k < n
      · obtain ⟨b, off, rfl, hbs, hc⟩ := H1.cells (by omega)
        have hkl : k < l.length := by rw [H.len]; exact hlt
        obtain ⟨c0, c1, c2⟩ := hc k l[k] (List.getElem?_eq_getElem hkl)
        rw [← hb.cell (p := ⟨b, _, none⟩) hbs] at c0 c1 c2
        rw [List.drop_eq_getElem_cons hkl] at hinv
        generalize l[k] = t at *
        have hinv' : Hid (Tally.sumFrom (wrap64 (s + t.n)) (l.drop (k + 1)) = Tally.value l) := hinv
        clear hinv hc hkl
        go_wp2
        go_roundw
        case rel => exact ⟨k + 1, _, by omega, by go_num, rfl, hinv'.out, hb⟩
        case measure => simp [intOf]; omega
      · have hkn : k = n := by omega
        subst hkn
        have hs : Hid (s = Tally.value l) := by
          rw [List.drop_eq_nil_of_le (by rw [H.len]; omega)] at hinv
          exact hinv
        clear hinv
        go_wp2
        go_ret2
        exact ⟨by rw [hres.out, ← hs.out]; rfl, hb1.trans (hb.mono hb1.size)⟩
  · have hchk' : Tally.chk l = false := by simpa using hchk
    have hE := Tally.chkE_f hchk'
    have hres : Hid (Tally.valueSpec l = (0, 150)) := by simp [Hid, Tally.valueSpec, hchk']
    clear hchk hchk'
    go_enter Try.func13, Try.ntmps13
    go_wp2_with fail
    refine (rcheck_any a n c l _ H).mono ?_
    rintro e w1 ⟨rfl, hb1⟩
    go_wp2_with fail
    go_ret2
    exact ⟨by rw [hres.out]; rfl, hb1⟩

theorem rvalue_t (a : Option Addr) (n c : Nat) (l : List Tl) (w : World) (H : TS w a n c l) (v er : Int) (hr : Tally.valueSpec l = (v, er)) :
    Calls Try.prog 13 #[.slice a n c] w fun e w' => e = .returned (.tuple #[.int .i64 v, .int .i64 er]) ∧ Below w.heap.size w w' :=
  (rvalue_any a n c l w H).mono fun e w' ⟨he, hb⟩ => ⟨by rw [he, hr], hb⟩

end Go.Proofs.Ytlmngdcifappoaa
