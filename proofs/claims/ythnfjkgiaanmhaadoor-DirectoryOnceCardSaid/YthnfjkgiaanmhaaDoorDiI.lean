/- directory.private, New, Set$1; slices.BinarySearchFunc at []api.Listing -/
import Derived.Test.YthnfjkgiaanmhaaDoorDiH
namespace Go.Dr
theorem hasL_at (dev : Int) (l : List Lst) : hasL dev l = match l[posL dev l]? with | some y => decide (y.dev = dev) | none => false := rfl
end Go.Dr
namespace Go.Proofs.YthnfjkgiaanmhaaDoor
open Go.RowKit Go.Mem
open Go.Dr (Lst Rt)

theorem cmp_lt {x y : Int} : Lib.compareInt x y < 0 ↔ x < y := by
  unfold Lib.compareInt; split
  · simp [*]
  · split <;> simp <;> omega
theorem cmp_eq {x y : Int} : (Lib.compareInt x y == 0) = decide (x = y) := by
  unfold Lib.compareInt
  split
  · rw [decide_eq_false (by omega)]; rfl
  · split
    · rw [decide_eq_false (by omega)]; rfl
    · rw [decide_eq_true (by omega)]; rfl


set_option maxHeartbeats 400000 in
theorem private_any (x : Int) (w : World) : Calls Tryd.prog 18 #[.int .i64 x] w (fun e w' => e = .returned (.bool (keyOk x)) ∧ w' = w) := by
  go_enter Tryd.func18, Tryd.ntmps18
  by_cases h1 : 1 ≤ x <;> by_cases h2 : x < 2305843009213688669
  all_goals
    go_wp2_with fail
    go_returns
    exact ⟨by simp [keyOk, h1, h2], rfl⟩

set_option maxHeartbeats 400000 in
theorem set1_any (x : Lst) (k : Int) (r : List Value) (hr : r = gC x) (w : World) :
    Calls Tryd.prog 24 #[.agg r.toArray, .int .i64 k] w (RetI (Lib.compareInt x.dev k) w) := by
  subst hr
  have hc := Lib.hid (fun W => Tryd.cmp_Compare_int x.dev k W)
  obtain ⟨W, hW⟩ : ∃ W, Hid (w.alloc (.cells (gC x).toArray 25) = W) := ⟨_, rfl⟩
  have c0 : W.cell? ⟨w.heap.size, 0, none⟩ = some (.int .i64 x.dev) := by rw [← hW.out]; exact (Blk.new w _ (gC x)).at_ (i := 0) rfl
  have hb : Hid (Below w.heap.size w W) := by rw [← hW.out]; exact (Below.refl _ w).alloc (Nat.le_refl _) _
  go_enter Tryd.func24, Tryd.ntmps24
  go_upto_region 1 with fail
  rw [hW.out]
  clear hW
  go_wp2_with fail
  refine (hc.out _).mono ?_
  rintro e w1 ⟨rfl, rfl⟩
  go_wp2_with fail
  go_returns
  exact ⟨rfl, hb.out⟩
set_option maxRecDepth 20000 in
set_option maxHeartbeats 1000000 in
theorem bsfG_any (K : Nat → Prop) (a : Option Addr) (n c : Nat) (l : List Lst) (key : Int) (w : World) (H : GS K w a n c l) (hn : n ≤ 100000) (hs : Go.Dr.chkL l = true) :
    Calls Tryd.prog 23 #[.slice a n c, .int .i64 key, .func (.func 24) #[] #[]] w fun e w' => e = .returned (.tuple #[.int .i64 (Go.Dr.posL key l), .bool (Go.Dr.hasL key l)]) ∧ Below w.heap.size w w' := by
  have hle := RS.le H
  have hmx := RS.max H
  have hlen := RS.len H
  have hc1 := Lib.hid (fun x W => set1_any x key (gC x) rfl W)
  have H' := Lib.hid H
  go_enter Tryd.func23, Tryd.ntmps23
  go_wp2
  go_loopw [9, 10] (fun iv jv wr => ∃ (i j : Nat), i ≤ j ∧ j ≤ n ∧ iv = .int .i64 i ∧ jv = .int .i64 j ∧ (∀ p t, p < i → l[p]? = some t → t.dev < key) ∧ (∀ p t, j ≤ p → l[p]? = some t → key ≤ t.dev) ∧ Below w.heap.size w wr)
    (fun i j _ => (intOf j - intOf i).toNat)
  case atStart => exact ⟨0, n, Nat.zero_le _, Nat.le_refl _, rfl, rfl, fun p t hp => absurd hp (by omega), fun p t hp ht => absurd (List.getElem?_eq_some_iff.1 ht).1 (by omega), Below.refl _ _⟩
  case round =>
    obtain ⟨i, j, hij, hjn, rfl, rfl, hlo, hhi, hb⟩ := hrel
    by_cases hlt : i < j
    · have hlt' : (i : Int) < (j : Int) := by omega
      have hm1 : (i + j) / 2 < n := by omega
      have hm2 : i ≤ (i + j) / 2 ∧ (i + j) / 2 < j := by omega
      have hkl : (i + j) / 2 < l.length := by omega
      have hget : l[(i + j) / 2]? = some l[(i + j) / 2] := List.getElem?_eq_getElem hkl
      obtain ⟨b, off, rfl, hbs, _, _, hrg⟩ := GS.cells H hget
      generalize l[(i + j) / 2] = t at *
      have c0 : wr.cell? ⟨b, off + ((i + j) / 2) * 5, none⟩ = some (.int .i64 t.dev) := (hb.cell (p := ⟨b, _, none⟩) hbs).trans (by simpa using hrg 0 _ rfl)
      have c1 : wr.cell? ⟨b, off + ((i + j) / 2) * 5 + 1, none⟩ = some (.int .i64 t.ver) := (hb.cell (p := ⟨b, _, none⟩) hbs).trans (by exact hrg 1 _ rfl)
      have c2 : wr.cell? ⟨b, off + ((i + j) / 2) * 5 + 2, none⟩ = some (.int .i64 t.leaf) := (hb.cell (p := ⟨b, _, none⟩) hbs).trans (by exact hrg 2 _ rfl)
      have c3 : wr.cell? ⟨b, off + ((i + j) / 2) * 5 + 3, none⟩ = some (.int .i64 t.vers) := (hb.cell (p := ⟨b, _, none⟩) hbs).trans (by exact hrg 3 _ rfl)
      have c4 : wr.cell? ⟨b, off + ((i + j) / 2) * 5 + 4, none⟩ = some (.bool t.gone) := (hb.cell (p := ⟨b, _, none⟩) hbs).trans (by exact hrg 4 _ rfl)
      clear hrg
      have hi1 : ((i : Int) + (j : Int)) / 2 < (n : Int) := by omega
      have hi2 : (0 : Int) ≤ ((i : Int) + (j : Int)) / 2 := by omega
      have hi3 : (((i : Int) + (j : Int)) / 2).toNat = (i + j) / 2 := by omega
      by_cases hk : t.dev < key
      · have hcm : Lib.compareInt t.dev key < 0 := cmp_lt.2 hk
        have hlo' : Hid (∀ p u, p < (i + j) / 2 + 1 → l[p]? = some u → u.dev < key) := fun p u hp hu => by
          by_cases e : p = (i + j) / 2
          · subst e; rw [hget] at hu; cases hu; exact hk
          · exact Int.lt_trans (Go.Dr.chk_sorted hs (by omega) hu hget) hk
        have hhi' := Lib.hid hhi
        clear hlo hhi hget hkl
        go_wp2_with (refine (hc1.out _ _).mono ?_; rintro e w1 ⟨rfl, hb1⟩)
        go_roundw
        case rel => exact ⟨(i + j) / 2 + 1, j, by omega, hjn, by go_num, rfl, hlo'.out, hhi'.out, hb.trans (hb1.mono hb.size)⟩
        case measure => simp [intOf]; omega
      · have hcm : (Lib.compareInt t.dev key < 0) = False := by rw [eq_iff_iff, iff_false, cmp_lt]; exact hk
        have hhi' : Hid (∀ p u, (i + j) / 2 ≤ p → l[p]? = some u → key ≤ u.dev) := fun p u hp hu => by
          by_cases e : p = (i + j) / 2
          · subst e; rw [hget] at hu; cases hu; omega
          · have := Go.Dr.chk_sorted hs (show (i + j) / 2 < p by omega) hget hu; omega
        have hlo' := Lib.hid hlo
        clear hlo hhi hget hkl
        go_wp2_with (refine (hc1.out _ _).mono ?_; rintro e w1 ⟨rfl, hb1⟩)
        go_roundw
        case rel => exact ⟨i, (i + j) / 2, by omega, by omega, rfl, by go_num, hlo'.out, hhi'.out, hb.trans (hb1.mono hb.size)⟩
        case measure => simp [intOf]; omega
    · obtain rfl : i = j := by omega
      have hpos : Go.Dr.posL key l = i := Go.Dr.posL_eq (by omega) hlo (fun x hx => hhi i x (Nat.le_refl _) hx)
      by_cases hin : i < n
      · have hkl : i < l.length := by omega
        have hget : l[i]? = some l[i] := List.getElem?_eq_getElem hkl
        obtain ⟨b, off, rfl, hbs, _, _, hrg⟩ := GS.cells H hget
        generalize l[i] = t at *
        have c0 : wr.cell? ⟨b, off + i * 5, none⟩ = some (.int .i64 t.dev) := (hb.cell (p := ⟨b, _, none⟩) hbs).trans (by simpa using hrg 0 _ rfl)
        have c1 : wr.cell? ⟨b, off + i * 5 + 1, none⟩ = some (.int .i64 t.ver) := (hb.cell (p := ⟨b, _, none⟩) hbs).trans (by exact hrg 1 _ rfl)
        have c2 : wr.cell? ⟨b, off + i * 5 + 2, none⟩ = some (.int .i64 t.leaf) := (hb.cell (p := ⟨b, _, none⟩) hbs).trans (by exact hrg 2 _ rfl)
        have c3 : wr.cell? ⟨b, off + i * 5 + 3, none⟩ = some (.int .i64 t.vers) := (hb.cell (p := ⟨b, _, none⟩) hbs).trans (by exact hrg 3 _ rfl)
        have c4 : wr.cell? ⟨b, off + i * 5 + 4, none⟩ = some (.bool t.gone) := (hb.cell (p := ⟨b, _, none⟩) hbs).trans (by exact hrg 4 _ rfl)
        clear hrg
        have hfin : Hid (Ending.returned (.tuple #[.int .i64 i, .bool (Lib.compareInt t.dev key == 0)]) = .returned (.tuple #[.int .i64 (Go.Dr.posL key l), .bool (Go.Dr.hasL key l)])) := by
          rw [cmp_eq, Go.Dr.hasL_at, hpos, hget]
          rfl
        have hin' : (i : Int) < (n : Int) := by omega
        clear hlo hhi hget hkl hpos
        go_wp2_with (refine (hc1.out _ _).mono ?_; rintro e w1 ⟨rfl, hb1⟩)
        go_ret2
        exact ⟨hfin.out, hb.trans (hb1.mono hb.size)⟩
      · obtain rfl : i = n := by omega
        have hfin : Hid (Ending.returned (.tuple #[.int .i64 i, .bool false]) = .returned (.tuple #[.int .i64 (Go.Dr.posL key l), .bool (Go.Dr.hasL key l)])) := by
          rw [Go.Dr.hasL_at, hpos, List.getElem?_eq_none (by omega)]
          rfl
        clear hlo hhi hpos
        go_wp2
        go_ret2
        exact ⟨hfin.out, hb⟩

end Go.Proofs.YthnfjkgiaanmhaaDoor
