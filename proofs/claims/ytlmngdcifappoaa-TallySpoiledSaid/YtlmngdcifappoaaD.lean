/- tally.place -/
import Derived.Test.YtlmngdcifappoaaB
namespace Go.Proofs.Ytlmngdcifappoaa
open Go.RowKit
open Tally (Tl)

theorem cmpf_any (ob : Nat) (d s n k : Int) (w : World) (hob : w.cell? ⟨ob, 0, none⟩ = some (.func (.func 25) #[] #[])) :
    Calls Try.prog 34 #[.agg #[.int .i64 d, .int .i64 s, .int .i64 n], .int .i64 k, .pointer (some ⟨ob, 0, none⟩)] w fun e w' => e = .returned (.int .i64 (Tally.cmp d k)) ∧ Below w.heap.size w w' := by
  have hob' : (w.alloc (.cells #[.int .i64 d, .int .i64 s, .int .i64 n] 38)).cell? ⟨ob, 0, none⟩ = some (.func (.func 25) #[] #[]) := by
    rw [((Below.refl w.heap.size w).alloc (Nat.le_refl _) _).cell (p := ⟨ob, 0, none⟩) (World.block_lt_of_cell? w _ hob)]; exact hob
  go_enter Try.func34, Try.ntmps34
  go_wp2_with (first
    | (go_at_call 25; (with_reducible refine (device_any _ _ _ _).mono ?_); rintro e w1 ⟨rfl, hb1⟩)
    | (go_at_call 31; (with_reducible refine (compare_any _ _ _).mono ?_); rintro e w2 ⟨rfl, rfl⟩))
  go_ret
  exact ⟨rfl, ((Below.refl _ _).alloc (Nat.le_refl _) _).trans (hb1.mono (by simp))⟩

set_option maxHeartbeats 1000000 in
theorem bsf_any (ob : Nat) (a : Option Addr) (n c : Nat) (l : List Tl) (key : Int) (w : World) (H : TS w a n c l) (hob : w.cell? ⟨ob, 0, none⟩ = some (.func (.func 25) #[] #[])) (hs : Tally.Sorted (-1) l) (hn : n ≤ 1000000) :
    Calls Try.prog 33 #[.slice a n c, .int .i64 key, .func (.func 34) #[] #[.pointer (some ⟨ob, 0, none⟩)]] w fun e w' => e = .returned (.tuple #[.int .i64 (Tally.pos key l), .bool (Tally.has key l)]) ∧ Below w.heap.size w w' := by
  have hle := H.le
  have hmx := H.max
  go_enter Try.func33, Try.ntmps33
  go_wp2
  go_loopw [9, 10] (fun iv jv wr => ∃ (i j : Nat), i ≤ j ∧ j ≤ n ∧ iv = .int .i64 i ∧ jv = .int .i64 j ∧ (∀ p t, p < i → l[p]? = some t → t.d < key) ∧ (∀ p t, j ≤ p → l[p]? = some t → key ≤ t.d) ∧ Below w.heap.size w wr)
    (fun i j _ => (intOf j - intOf i).toNat)
  case atStart => exact ⟨0, n, Nat.zero_le _, Nat.le_refl _, rfl, rfl, fun p t hp => absurd hp (by omega), fun p t hp ht => absurd (List.getElem?_eq_some_iff.1 ht).1 (by rw [H.len]; omega), Below.refl _ _⟩
  case round =>
    obtain ⟨i, j, hij, hjn, rfl, rfl, hlo, hhi, hb⟩ := hrel
    by_cases hlt : i < j
    · have hlt' : (i : Int) < (j : Int) := by omega
      have hm1 : (i + j) / 2 < n := by omega
      have hm2 : i ≤ (i + j) / 2 ∧ (i + j) / 2 < j := by omega
      obtain ⟨b, off, rfl, hbs, hc⟩ := H.cells (by omega)
      have hkl : (i + j) / 2 < l.length := by rw [H.len]; exact hm1
      have hget : l[(i + j) / 2]? = some l[(i + j) / 2] := List.getElem?_eq_getElem hkl
      obtain ⟨c0, c1, c2⟩ := hc _ l[(i + j) / 2] hget
      rw [← hb.cell (p := ⟨b, _, none⟩) hbs] at c0 c1 c2
      generalize l[(i + j) / 2] = t at *
      have hobl := World.block_lt_of_cell? w _ hob
      have hob1 : wr.cell? ⟨ob, 0, none⟩ = some (.func (.func 25) #[] #[]) := by rw [hb.cell (p := ⟨ob, 0, none⟩) hobl]; exact hob
      have hi1 : ((i : Int) + (j : Int)) / 2 < (n : Int) := by omega
      have hi2 : (0 : Int) ≤ ((i : Int) + (j : Int)) / 2 := by omega
      have hi3 : (((i : Int) + (j : Int)) / 2).toNat = (i + j) / 2 := by omega
      by_cases hk : t.d < key
      · have hcm : Tally.cmp t.d key = -1 := by simp [Tally.cmp, hk]
        have hlo' : Hid (∀ p u, p < (i + j) / 2 + 1 → l[p]? = some u → u.d < key) := fun p u hp hu => by
          by_cases e : p = (i + j) / 2
          · subst e; rw [hget] at hu; cases hu; exact hk
          · exact Int.lt_trans (hs.lt (by omega) hu hget) hk
        have hhi' := Lib.hid hhi
        clear hlo hhi hc hget hkl
        go_wp2_with ((with_reducible refine (cmpf_any _ _ _ _ _ _ hob1).mono ?_); rintro e w1 ⟨rfl, hb1⟩)
        go_roundw
        case rel => exact ⟨(i + j) / 2 + 1, j, by omega, hjn, by go_num, rfl, hlo'.out, hhi'.out, hb.trans (hb1.mono hb.size)⟩
        case measure => simp [intOf]; omega
      · have hcm : (Tally.cmp t.d key < 0) = False := by simp only [Tally.cmp, if_neg hk, eq_iff_iff, iff_false]; split <;> omega
        have hhi' : Hid (∀ p u, (i + j) / 2 ≤ p → l[p]? = some u → key ≤ u.d) := fun p u hp hu => by
          by_cases e : p = (i + j) / 2
          · subst e; rw [hget] at hu; cases hu; omega
          · have := hs.lt (show (i + j) / 2 < p by omega) hget hu; omega
        have hlo' := Lib.hid hlo
        clear hlo hhi hc hget hkl
        go_wp2_with ((with_reducible refine (cmpf_any _ _ _ _ _ _ hob1).mono ?_); rintro e w1 ⟨rfl, hb1⟩)
        go_roundw
        case rel => exact ⟨i, (i + j) / 2, by omega, by omega, rfl, by go_num, hlo'.out, hhi'.out, hb.trans (hb1.mono hb.size)⟩
        case measure => simp [intOf]; omega
    · obtain rfl : i = j := by omega
      have hpos : Tally.pos key l = i := Tally.pos_eq (by rw [H.len]; exact hjn) hlo hhi
      by_cases hin : i < n
      · obtain ⟨b, off, rfl, hbs, hc⟩ := H.cells (by omega)
        have hkl : i < l.length := by rw [H.len]; exact hin
        have hget : l[i]? = some l[i] := List.getElem?_eq_getElem hkl
        obtain ⟨c0, c1, c2⟩ := hc _ l[i] hget
        rw [← hb.cell (p := ⟨b, _, none⟩) hbs] at c0 c1 c2
        generalize l[i] = t at *
        have hobl := World.block_lt_of_cell? w _ hob
        have hob1 : wr.cell? ⟨ob, 0, none⟩ = some (.func (.func 25) #[] #[]) := by rw [hb.cell (p := ⟨ob, 0, none⟩) hobl]; exact hob
        have hfin : Hid (Ending.returned (.tuple #[.int .i64 i, .bool (Tally.cmp t.d key == 0)]) = .returned (.tuple #[.int .i64 (Tally.pos key l), .bool (Tally.has key l)])) := by
          have h2 : key ≤ t.d := hhi i t (Nat.le_refl _) hget
          have h3 : (Tally.cmp t.d key == 0) = Tally.has key l := by
            rw [Tally.has_pos hs, hpos, hget, Bool.eq_iff_iff]
            simp only [Tally.cmp, if_neg (show ¬ t.d < key by omega), beq_iff_eq, decide_eq_true_eq]
            split <;> omega
          rw [h3, hpos]
          rfl
        have hin' : (i : Int) < (n : Int) := by omega
        clear hlo hhi hc hget hkl hpos
        go_wp2_with ((with_reducible refine (cmpf_any _ _ _ _ _ _ hob1).mono ?_); rintro e w1 ⟨rfl, hb1⟩)
        go_ret2
        exact ⟨hfin.out, hb.trans (hb1.mono hb.size)⟩
      · obtain rfl : i = n := by omega
        have hfin : Hid (Ending.returned (.tuple #[.int .i64 i, .bool false]) = .returned (.tuple #[.int .i64 (Tally.pos key l), .bool (Tally.has key l)])) := by
          rw [Tally.has_pos hs, hpos, List.getElem?_eq_none (by rw [H.len]; omega)]
          rfl
        clear hlo hhi hpos
        go_wp2
        go_ret2
        exact ⟨hfin.out, hb⟩

set_option maxHeartbeats 400000 in
theorem place_any (a : Option Addr) (n c : Nat) (l : List Tl) (key : Int) (w : World) (H : TS w a n c l) (hs : Tally.Sorted (-1) l) (hn : n ≤ 1000000) :
    Calls Try.prog 24 #[.slice a n c, .int .i64 key, .func (.func 25) #[] #[]] w fun e w' => e = .returned (.tuple #[.int .i64 (Tally.pos key l), .bool (Tally.has key l)]) ∧ Below w.heap.size w w' := by
  have hb0 : Below w.heap.size w (w.alloc (.cells #[.func (.func 25) #[] #[]] 51)) := (Below.refl _ _).alloc (Nat.le_refl _) _
  have hob : (w.alloc (.cells #[.func (.func 25) #[] #[]] 51)).cell? ⟨w.heap.size, 0, none⟩ = some (.func (.func 25) #[] #[]) := by
    rw [cell_of_row _ _ _ _ _ _ (heap_alloc_new w _)]; rfl
  have H1 := Lib.hid (H.below hb0 (Nat.le_refl _))
  have hs1 := Lib.hid hs
  have hob1 := Lib.hid hob
  clear H hs hob
  go_enter Try.func24, Try.ntmps24
  go_wp2_with ((with_reducible refine (bsf_any _ _ _ _ l _ _ H1.out hob1.out hs1.out hn).mono ?_); rintro e w1 ⟨rfl, hb1⟩)
  go_ret2
  exact ⟨rfl, hb0.trans (hb1.mono hb0.size)⟩

end Go.Proofs.Ytlmngdcifappoaa
