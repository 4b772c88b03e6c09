/- walks of the tally functions -/
import Derived.Test.YtlmngdcifappoaaChecked
import Derived.Test.YtlmngdcifappoaaTallyPlain
import Derived.WalkKit
import Derived.WalkLawsBesides
import Derived.WalkSpells
import Derived.Lib.Hide
import Derived.Deep.QuietTactic
import Derived.BigQuiet
namespace Go.Proofs.Ytlmngdcifappoaa
open Go.RowKit
open Tally (Tl)

theorem within_any (d s : Int) (w : World) : Calls Try.prog 23 #[.int .i64 d, .int .i64 s] w fun e w' => e = .returned (.bool (Tally.dot d s)) ∧ w = w' := by
  by_cases h1 : 0 ≤ d
  · by_cases h2 : d < 512
    · by_cases h3 : 1 ≤ s
      · have hd : Hid (Tally.dot d s = decide (s ≤ 1048576)) := by simp [Hid, Tally.dot, h1, h2, h3]
        go_enter Try.func23, Try.ntmps23
        go_wp2
        go_ret
        exact ⟨by rw [hd.out]; rfl, rfl⟩
      · have hd : Hid (Tally.dot d s = false) := by simp [Hid, Tally.dot, h1, h2, h3]
        go_enter Try.func23, Try.ntmps23
        go_wp2
        go_ret
        exact ⟨by rw [hd.out]; rfl, rfl⟩
    · have hd : Hid (Tally.dot d s = false) := by simp [Hid, Tally.dot, h1, h2]
      go_enter Try.func23, Try.ntmps23
      go_wp2
      go_ret
      exact ⟨by rw [hd.out]; rfl, rfl⟩
  · have hd : Hid (Tally.dot d s = false) := by simp [Hid, Tally.dot, h1]
    go_enter Try.func23, Try.ntmps23
    go_wp2
    go_ret
    exact ⟨by rw [hd.out]; rfl, rfl⟩

theorem dot_any (d s : Int) (w : World) : Calls Try.prog 28 #[.int .i64 d, .int .i64 s] w fun e w' => e = .returned (.bool (Tally.dot d s)) ∧ w = w' := by
  by_cases h1 : 0 ≤ d
  · by_cases h2 : d < 512
    · by_cases h3 : 1 ≤ s
      · have hd : Hid (Tally.dot d s = decide (s ≤ 1048576)) := by simp [Hid, Tally.dot, h1, h2, h3]
        go_enter Try.func28, Try.ntmps28
        go_wp2
        go_ret
        exact ⟨by rw [hd.out]; rfl, rfl⟩
      · have hd : Hid (Tally.dot d s = false) := by simp [Hid, Tally.dot, h1, h2, h3]
        go_enter Try.func28, Try.ntmps28
        go_wp2
        go_ret
        exact ⟨by rw [hd.out]; rfl, rfl⟩
    · have hd : Hid (Tally.dot d s = false) := by simp [Hid, Tally.dot, h1, h2]
      go_enter Try.func28, Try.ntmps28
      go_wp2
      go_ret
      exact ⟨by rw [hd.out]; rfl, rfl⟩
  · have hd : Hid (Tally.dot d s = false) := by simp [Hid, Tally.dot, h1]
    go_enter Try.func28, Try.ntmps28
    go_wp2
    go_ret
    exact ⟨by rw [hd.out]; rfl, rfl⟩

/-- A slice of tallies in memory. -/
structure TS (w : World) (a : Option Addr) (n c : Nat) (l : List Tl) : Prop where
  len : l.length = n
  le : n ≤ c
  max : c ≤ 9223372036854775807
  nil : a = none → n = 0 ∧ c = 0
  cells : 0 < n → ∃ b off, a = some ⟨b, off, none⟩ ∧ b < w.heap.size ∧ ∀ i t, l[i]? = some t →
    w.cell? ⟨b, off + i * 3, none⟩ = some (.int .i64 t.d) ∧ w.cell? ⟨b, off + i * 3 + 1, none⟩ = some (.int .i64 t.s) ∧ w.cell? ⟨b, off + i * 3 + 2, none⟩ = some (.int .i64 t.n)
  wf : ∀ t ∈ l, (-9223372036854775808 ≤ t.d ∧ t.d ≤ 9223372036854775807) ∧ (-9223372036854775808 ≤ t.s ∧ t.s ≤ 9223372036854775807) ∧ (-9223372036854775808 ≤ t.n ∧ t.n ≤ 9223372036854775807)

theorem TS.below {w w' : World} {a : Option Addr} {n c B : Nat} {l : List Tl} (h : TS w a n c l) (hb : Below B w w') (hB : w.heap.size ≤ B) : TS w' a n c l :=
  ⟨h.len, h.le, h.max, h.nil, fun hn => by
    obtain ⟨b, off, e, hl, hc⟩ := h.cells hn
    exact ⟨b, off, e, Nat.lt_of_lt_of_le hl hb.size, fun i t ht => by
      obtain ⟨h1, h2, h3⟩ := hc i t ht
      exact ⟨(hb.cell (p := ⟨b, _, none⟩) (Nat.lt_of_lt_of_le hl hB)).trans h1, (hb.cell (p := ⟨b, _, none⟩) (Nat.lt_of_lt_of_le hl hB)).trans h2, (hb.cell (p := ⟨b, _, none⟩) (Nat.lt_of_lt_of_le hl hB)).trans h3⟩⟩, h.wf⟩

set_option maxHeartbeats 400000 in
theorem check_any (a : Option Addr) (n c : Nat) (l : List Tl) (w : World) (H : TS w a n c l) :
    Calls Try.prog 16 #[.slice a n c] w fun e w' => e = .returned (.int .i64 (Tally.chkE l)) ∧ Below w.heap.size w w' := by
  have hle := H.le
  have hmx := H.max
  go_enter Try.func16, Try.ntmps16
  go_wp2
  go_loopw [3, 8] (fun v i wr => ∃ (k : Nat) (last : Int), k ≤ n ∧ i = .int .i64 k ∧ v = .int .i64 last ∧ Tally.chkFrom last (l.drop k) = Tally.chk l ∧ Below w.heap.size w wr)
    (fun _ i _ => n - (intOf i).toNat)
  case atStart => exact ⟨0, -1, Nat.zero_le _, rfl, rfl, rfl, Below.refl _ _⟩
  case round =>
    obtain ⟨k, last, hk, rfl, rfl, hinv, hb⟩ := hrel
    by_cases hlt : k < n
    · obtain ⟨b, off, rfl, hbs, hc⟩ := H.cells (by omega)
      have hkl : k < l.length := by rw [H.len]; exact hlt
      obtain ⟨c0, c1, c2⟩ := hc k l[k] (List.getElem?_eq_getElem hkl)
      rw [← hb.cell (p := ⟨b, _, none⟩) hbs] at c0 c1 c2
      rw [List.drop_eq_getElem_cons hkl] at hinv
      generalize l[k] = t at *
      clear hc hkl
      have hB := hb.alloc hb.size (Obj.cells #[Value.int IntKind.i64 t.d, Value.int IntKind.i64 t.s, Value.int IntKind.i64 t.n] 38)
      by_cases hd : Tally.dot t.d t.s = true
      · by_cases hl : t.d ≤ last
        · have he : Hid (Tally.chkE l = 150) := Tally.chkE_f (by rw [← hinv, Tally.chkFrom_le hl])
          clear hinv
          go_wp2_with ((with_reducible refine (within_any _ _ _).mono ?_); rintro e w' ⟨rfl, rfl⟩)
          go_ret
          exact ⟨by rw [he.out]; rfl, hB⟩
        · have he : Hid (Tally.chkFrom t.d (l.drop (k + 1)) = Tally.chk l) := by rw [Tally.chkFrom_t hd (by omega)] at hinv; exact hinv
          clear hinv
          go_wp2_with ((with_reducible refine (within_any _ _ _).mono ?_); rintro e w' ⟨rfl, rfl⟩)
          go_roundw
          case rel => exact ⟨k + 1, t.d, by omega, by go_num, rfl, he.out, hB⟩
          case measure => simp [intOf]; omega
      · have hd' : Tally.dot t.d t.s = false := by simpa using hd
        have he : Hid (Tally.chkE l = 150) := Tally.chkE_f (by rw [← hinv, Tally.chkFrom_dot_f hd'])
        clear hinv hd
        go_wp2_with ((with_reducible refine (within_any _ _ _).mono ?_); rintro e w' ⟨rfl, rfl⟩)
        go_ret
        exact ⟨by rw [he.out]; rfl, hB⟩
    · have hkn : k = n := by omega
      subst hkn
      have hc : Hid (Tally.chkE l = 0) := by
        rw [List.drop_eq_nil_of_le (by rw [H.len]; omega)] at hinv
        exact Tally.chkE_t hinv.symm
      clear hinv
      go_wp2
      go_ret
      exact ⟨by rw [hc.out]; rfl, hb⟩

end Go.Proofs.Ytlmngdcifappoaa
