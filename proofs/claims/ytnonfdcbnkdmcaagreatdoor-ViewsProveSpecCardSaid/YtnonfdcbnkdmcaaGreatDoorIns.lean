/- slices.Insert at []api.Log -/
import Derived.Test.YtnonfdcbnkdmcaaGreatDoorCln
import Derived.Deep.QuietTactic
import Derived.BigQuiet
namespace Go.Proofs.YtnonfdcbnkdmcaaGreatDoor
open Go.RowKit Go.Mem

set_option maxRecDepth 20000 in
set_option maxHeartbeats 1000000 in
/-- slices.Insert at the end. -/
theorem insertL_end (B : Nat) (v : Value) (n : Nat) (xs ys : List Value) (w : World) (hown : w.ownsRow B 121 2 v n xs) (vb : Nat) (hy : ys.length = 2) (h1 : ∀ u ∈ ys, u.oneCell' = true)
    (hvs : ∀ j u, ys[j]? = some u → w.cell? ⟨vb, j, none⟩ = some u) (hB : B ≤ w.heap.size) (hb : (n + 1) * 32 ≤ 140737488355328) :
    Calls Tryz.prog 113 #[v, .int .i64 n, .slice (some ⟨vb, 0, none⟩) 1 1] w (Sl.OwnsAfter B 121 2 (n + 1) (xs ++ ys) w) := by
  obtain ⟨i0, hi, hz0, hz1, hz2⟩ := info_parts infoL
  obtain ⟨a, c, hv, R, hbl⟩ := Sl.of_owns hown
  have hle := R.le
  have hmx := R.max
  unfold maxLen at hmx
  have hown' := Lib.hid hown
  have hv' := Lib.hid hv
  have hvs' : Hid (∀ j u, ys[j]? = some u → w.cell? ((⟨vb, 0, none⟩ : Addr).add j) = some u) := fun j u hj => by rw [Addr.add_lit, Nat.zero_add]; exact hvs j u hj
  have hy' := Lib.hid hy
  have hb' := Lib.hid hb
  have hbl' := Lib.hid hbl
  clear hown hvs hy hb hbl R
  rw [hv]
  clear hv
  go_enter Tryz.func113, Tryz.ntmps113
  go_wp2_with (at_builtin; refine wpList_append_own _ rfl _ _ 22 rfl B 121 i0 _ 2 32 Tryz.underlying22 hi hz0 hz1 hz2 rfl (by decide) _ n xs rfl (hv'.out ▸ hown'.out) ⟨vb, 0, none⟩ 1 1 ys rfl hy'.out hvs'.out h1 (by have := hb'.out; unfold maxLen; omega) hb'.out hB ?_; intro v' w1 hown1 hgrow _)
  all_goals
    go_ret
    exact ⟨v', rfl, hown1, (Below.refl _ _).grown hgrow hB (fun k e => by cases a with
      | none => cases e
      | some ad => cases e; exact (hbl'.out ad rfl).1)⟩


set_option maxRecDepth 20000 in
set_option maxHeartbeats 1000000 in
/-- slices.Insert in the middle, no room. -/
theorem insertL_grow (B : Nat) (g n i cap : Nat) (xs rest ys : List Value) (w : World) (_hBg : B ≤ g) (hgl : g < w.heap.size) (hg : w.heap[g]? = some (.cells (xs ++ rest).toArray 121 (0, 0))) (hx : xs.length = n * 2) (hin : i < n) (hnc : n ≤ cap) (hcm : cap ≤ maxLen)
    (hfull : cap < n + 1) (h1x : ∀ u ∈ xs, u.oneCell' = true)
    (vb : Nat) (hvb : vb < w.heap.size) (hy : ys.length = 2) (h1 : ∀ u ∈ ys, u.oneCell' = true)
    (hvs : ∀ j u, ys[j]? = some u → w.cell? ⟨vb, j, none⟩ = some u) (hB : B ≤ w.heap.size) (hb : (n + 1) * 32 ≤ 140737488355328) :
    Calls Tryz.prog 113 #[.slice (some ⟨g, 0, none⟩) n cap, .int .i64 i, .slice (some ⟨vb, 0, none⟩) 1 1] w (Sl.OwnsAfter B 121 2 (n + 1) (xs.take (i * 2) ++ ys ++ xs.drop (i * 2)) w) := by
  unfold maxLen at hcm
  obtain rfl : cap = n := by omega
  obtain ⟨i0, hi, hz0, hz1, hz2⟩ := info_parts infoL
  have hne : ¬ (cap : Int) = (i : Int) := by omega
  have hne2 : ¬ (i : Int) = (cap : Int) := by omega
  have hne3 : ¬ cap = i := by omega
  have hin' : (i : Int) < (cap : Int) := by omega
  have hcb : (cap : Int) ≤ 4398046511104 := by omega
  have hcell : ∀ j u, xs[j]? = some u → w.cell? ⟨g, j, none⟩ = some u := fun j u hj => by
    rw [cell_of_row w g j _ 121 (0, 0) hg]
    have := (List.getElem?_eq_some_iff.1 hj).1
    simpa [List.getElem?_append_left this] using hj
  have hx3 : i * 2 ≤ xs.length := by omega
  obtain ⟨c2, W1, Z, hr1, hc2, hc2m, hW1, hZ, hb1, hs1⟩ := Sl.append_zeros (P := Tryz.prog) w 22 3 121 i0 _ .i64 2 32 Tryz.underlying22 Tryz.underlying3 hi hz0 hz1 hz2 rfl ⟨g, 0, none⟩ i cap (cap + 1 - i) (cap + 1) (xs.take (i * 2)) (by simp; omega)
    (fun j u hj => by rw [Addr.add_lit, Nat.zero_add]; rw [List.getElem?_take] at hj; split at hj; exact hcell j u hj; cases hj) ((cap : Int) + 1 - (i : Int)) (by omega) (by omega) (by omega) (by omega) (by omega) hb (by omega)
  have hpl : (xs.take (i * 2)).length = i * 2 := by simp; omega
  unfold maxLen at hc2m
  have hvs1 : ∀ j u, ys[j]? = some u → W1.cell? ((⟨vb, 0, none⟩ : Addr).add j) = some u := fun j u hj => by
    rw [Addr.add_lit, Nat.zero_add, hb1.cell (p := ⟨vb, j, none⟩) hvb]; exact hvs j u hj
  obtain ⟨W2, hr2, hW2, hg2, hs2⟩ := Sl.copy_row (P := Tryz.prog) W1 22 22 121 w.heap.size (i * 2) (cap + 1 - i) ⟨vb, 0, none⟩ 1 1 2 121 (xs.take (i * 2)) (Z.take 2) (Z.drop 2) ys Tryz.underlying22 sizeL (by rw [List.append_assoc, List.take_append_drop]; exact hW1) hpl
    (by rw [List.length_take, hy]; omega) (by simp [Nat.min_def]; omega) (by omega) hvs1 h1
  have hZ1 : ((Z.drop 2).take ((cap - i) * 2)).length = (xs.drop (i * 2)).length := by simp; omega
  have hcell2 : ∀ j u, (xs.drop (i * 2))[j]? = some u → W2.drew.cell? ((⟨g, i * 2, none⟩ : Addr).add j) = some u := fun j u hj => by
    rw [Addr.add_lit]
    rw [List.getElem?_drop] at hj
    refine hg2.cell (w := W1) (a := ⟨g, i * 2 + j, none⟩) ?_ (by simp; omega)
    rw [hb1.cell (p := ⟨g, _, none⟩) hgl]
    exact hcell _ u hj
  obtain ⟨W3, hr3, hW3, hg3, hs3⟩ := Sl.copy_row (P := Tryz.prog) W2.drew 22 22 121 w.heap.size ((i + 1) * 2) (cap - i) ⟨g, i * 2, none⟩ (cap - i) (cap - i) 2 121 (xs.take (i * 2) ++ ys) ((Z.drop 2).take ((cap - i) * 2)) ((Z.drop 2).drop ((cap - i) * 2)) (xs.drop (i * 2)) Tryz.underlying22 sizeL
    (by rw [List.append_assoc _ _ ((Z.drop 2).drop _), List.take_append_drop]; exact hW2) (by simp [hpl, hy]; omega) hZ1 (by simp ) (by simp; omega) hcell2 (fun u hu => h1x u (List.mem_of_mem_drop hu))
  have hfin : Hid (Sl.OwnsAfter B 121 2 (cap + 1) (xs.take (i * 2) ++ ys ++ xs.drop (i * 2)) w (.returned (.slice (some ⟨w.heap.size, 0, none⟩) (cap + 1) c2)) W3) := by
    refine ⟨_, rfl, Sl.owns_mk hB hW3 (by simp [hy]; omega) hc2 (by unfold maxLen; omega) ?_, ?_⟩
    · simp [hy]; simp [hpl] at hZ; omega
    · exact (((hb1.mono hB).grown hg2 (by omega) (fun k e => by cases e; exact hB)).drew).grown hg3 (by show B ≤ W2.heap.size; omega) (fun k e => by cases e; exact hB)
  clear hcell hcell2 hvs hvs1 hW1 hW2 hW3 hg2 hg3 hg h1x h1 hZ hZ1 hb1 hs1 hs2 hs3 hx hx3 hpl hy hi hz0 hz1 hz2
  go_enter Tryz.func113, Tryz.ntmps113
  go_wp2_with (first
    | (at_builtin; refine Lib.wpList_append_run _ rfl _ _ _ _ rfl _ _ rfl rfl _ _ (hr1 _) ?_)
    | (with_reducible refine Sl.wpList_copy_run _ rfl _ _ _ _ rfl _ _ rfl rfl _ _ (hr2 _ _ _) ?_))
  have hn1 : ¬ (c2 = i + 1) := by omega
  have hn2 : ((i : Int) + 1).toNat = i + 1 := by omega
  have hn3 : IntKind.i64.wrap ((i : Int) + 1) = (i : Int) + 1 := IntWalk.i64_in _ (by omega)
  have hn4 : (0 : Int) ≤ (i : Int) + 1 := by omega
  have hn5 : (i : Int) + 1 ≤ (cap : Int) + 1 := by omega
  have hn6 : (i : Int) ≤ (cap : Int) := by omega
  go_region_law (refine Sl.step_copy_run rfl _ _ 22 22 rfl _ _ (by simp [Act.eval, Act.put]) (by simp [Act.eval, Act.put]) _ _ (hr3 _ _ _) ?_)
  go_wp2
  go_ret
  exact hfin.out


set_option maxRecDepth 20000 in
set_option maxHeartbeats 1000000 in
/-- slices.Insert in the middle, there is room. -/
theorem insertL_shift (B : Nat) (g n i cap : Nat) (xs rest ys : List Value) (w : World) (hBg : B ≤ g) (hgl : g < w.heap.size) (hg : w.heap[g]? = some (.cells (xs ++ rest).toArray 121 (0, 0))) (hx : xs.length = n * 2) (hin : i < n) (_hnc : n ≤ cap) (hcm : cap ≤ maxLen)
    (hroom : n + 1 ≤ cap) (hrest : xs.length + rest.length = cap * 2) (h1x : ∀ u ∈ xs, u.oneCell' = true)
    (vb : Nat) (hvb : w.heap[vb]? = some (.cells ys.toArray 121 (0, 0))) (hvg : vb ≠ g) (hy : ys.length = 2) (h1 : ∀ u ∈ ys, u.oneCell' = true) :
    Calls Tryz.prog 113 #[.slice (some ⟨g, 0, none⟩) n cap, .int .i64 i, .slice (some ⟨vb, 0, none⟩) 1 1] w (Sl.OwnsAfter B 121 2 (n + 1) (xs.take (i * 2) ++ ys ++ xs.drop (i * 2)) w) := by
  unfold maxLen at hcm
  have hpl : (xs.take (i * 2)).length = i * 2 := by simp; omega
  have hLl : (xs ++ rest).length = cap * 2 := by simpa using hrest
  have hcell : ∀ j u, (xs.drop (i * 2))[j]? = some u → w.drew.cell? ((⟨g, i * 2, none⟩ : Addr).add j) = some u := fun j u hj => by
    rw [Addr.add_lit]
    show w.cell? ⟨g, i * 2 + j, none⟩ = _
    rw [cell_of_row w g _ _ 121 (0, 0) hg]
    rw [List.getElem?_drop] at hj
    have := (List.getElem?_eq_some_iff.1 hj).1
    simpa [List.getElem?_append_left this] using hj
  obtain ⟨W1, hr1, hW1, hg1, hs1⟩ := Sl.copy_row (P := Tryz.prog) w.drew 22 22 121 g ((i + 1) * 2) (n - i) ⟨g, i * 2, none⟩ (n + 1 - i) (n - i) 2 121 ((xs ++ rest).take ((i + 1) * 2)) (((xs ++ rest).drop ((i + 1) * 2)).take ((n - i) * 2)) (((xs ++ rest).drop ((i + 1) * 2)).drop ((n - i) * 2)) (xs.drop (i * 2)) Tryz.underlying22 sizeL
    (by rw [List.append_assoc, List.take_append_drop, List.take_append_drop]; exact hg) (by rw [List.length_take]; omega) (by rw [List.length_take, List.length_drop, List.length_drop]; omega) (by simp [Nat.min_def]; omega) (by rw [List.length_drop]; omega) hcell (fun u hu => h1x u (List.mem_of_mem_drop hu))
  have hsplit : (xs ++ rest).take ((i + 1) * 2) = xs.take (i * 2) ++ ((xs ++ rest).drop (i * 2)).take 2 := by
    rw [show (i + 1) * 2 = i * 2 + 2 by omega, List.take_add, List.take_append_of_le_length (by omega)]
  have hvs1 : ∀ j u, ys[j]? = some u → W1.cell? ((⟨vb, 0, none⟩ : Addr).add j) = some u := fun j u hj => by
    rw [Addr.add_lit, Nat.zero_add]
    refine hg1.cell (w := w.drew) (a := ⟨vb, j, none⟩) ?_ (by simpa using hvg)
    show w.cell? _ = _
    rw [cell_of_row w vb _ _ 121 (0, 0) hvb]
    simpa using hj
  obtain ⟨W2, hr2, hW2, hg2, hs2⟩ := Sl.copy_row (P := Tryz.prog) W1 22 22 121 g (i * 2) (n + 1 - i) ⟨vb, 0, none⟩ 1 1 2 121 (xs.take (i * 2)) (((xs ++ rest).drop (i * 2)).take 2) (xs.drop (i * 2) ++ ((xs ++ rest).drop ((i + 1) * 2)).drop ((n - i) * 2)) ys Tryz.underlying22 sizeL
    (by rw [← hsplit, ← List.append_assoc]; exact hW1) hpl (by rw [List.length_take, List.length_drop, hy]; omega) (by simp [Nat.min_def]; omega) (by omega) hvs1 h1
  have hfin : Hid (Sl.OwnsAfter B 121 2 (n + 1) (xs.take (i * 2) ++ ys ++ xs.drop (i * 2)) w (.returned (.slice (some ⟨g, 0, none⟩) (n + 1) cap)) W2) := by
    refine ⟨_, rfl, Sl.owns_mk hBg (rest := ((xs ++ rest).drop ((i + 1) * 2)).drop ((n - i) * 2)) (by rw [List.append_assoc _ (xs.drop _)]; exact hW2) (by simp [hy]; omega) hroom (by unfold maxLen; omega) ?_, ?_⟩
    · simp only [List.length_append, List.length_drop, List.length_take, hy]; rw [List.length_append] at hLl; omega
    · exact (((Below.refl B w).drew).grown hg1 (by show B ≤ w.heap.size; omega) (fun k e => by cases e; exact hBg)).grown hg2 (by rw [hs1]; show B ≤ w.heap.size; omega) (fun k e => by cases e; exact hBg)
  have hov : ∀ lb cb, (callFunc 166 #[.slice (some ⟨vb, 0, none⟩) 1 1, .slice (some ⟨g, (i + 1) * 2, none⟩) lb cb]).run Tryz.prog w = .ok (.value (.bool false)) w := fun lb cb => by
    rw [run_callFunc_extern Tryz.func166 (by kernel_rfl) (by kernel_rfl) (by kernel_rfl) (e := Extern.SlicesOverlaps.overlaps #[22, 22] #[4]) (by kernel_rfl),
      Lib.run_overlaps_apart w 22 4 121 Tryz.underlying22 2 (fun w => by kernel_rfl) ⟨vb, 0, none⟩ ⟨g, (i + 1) * 2, none⟩ 1 1 lb cb hvg 121 121 2 (cap * 2) (by simp [World.shape?, hvb, hy]) (by simp only [World.shape?, hg]; simpa using hLl) (by omega) (by simp [World.frozen?, hvb]) (by simp [World.frozen?, hvb])]
    rfl
  have hne : ¬ (cap : Int) = (i : Int) := by omega
  have hne2 : ¬ (i : Int) = (n : Int) := by omega
  have hne3 : ¬ cap = i := by omega
  have hne4 : ¬ (cap : Int) < (n : Int) + 1 := by omega
  have hin' : (i : Int) < (n : Int) := by omega
  have hcb : (cap : Int) ≤ 9223372036854775807 := by omega
  have hn1 : ¬ (cap = i + 1) := by omega
  have hn2 : ((i : Int) + 1).toNat = i + 1 := by omega
  have hn3 : IntKind.i64.wrap ((i : Int) + 1) = (i : Int) + 1 := IntWalk.i64_in _ (by omega)
  have hn4 : (0 : Int) ≤ (i : Int) + 1 := by omega
  have hn5 : (i : Int) + 1 ≤ (n : Int) + 1 := by omega
  have hn6 : (i : Int) ≤ (n : Int) + 1 := by omega
  clear hcell hvs1 hW1 hW2 hg2 hg1 hg h1x h1 hs1 hs2 hx hpl hy hLl hrest hsplit hvb
  go_enter Tryz.func113, Tryz.ntmps113
  go_wp2_with (simp only [hov])
  go_region_law (refine Sl.step_copy_run rfl _ _ 22 22 rfl _ _ (by simp [Act.eval, Act.put]) (by simp [Act.eval, Act.put]) _ _ (hr1 _ _ _) ?_)
  go_wp2_with (with_reducible refine Sl.wpList_copy_run _ rfl _ _ _ _ rfl _ _ rfl rfl _ _ (hr2 _ _ _) ?_)
  go_ret
  exact hfin.out


/-- slices.Insert of one element into a slice of the call's own. -/
theorem insertL_any (B : Nat) (v : Value) (n i : Nat) (xs ys : List Value) (w : World) (hown : w.ownsRow B 121 2 v n xs) (hin : i ≤ n) (h1x : ∀ u ∈ xs, u.oneCell' = true)
    (vb : Nat) (hvb : w.heap[vb]? = some (.cells ys.toArray 121 (0, 0))) (hvg : ∀ k, v.ownBlock = some k → vb ≠ k) (hy : ys.length = 2) (h1 : ∀ u ∈ ys, u.oneCell' = true) (hB : B ≤ w.heap.size) (hb : (n + 1) * 32 ≤ 140737488355328) :
    Calls Tryz.prog 113 #[v, .int .i64 i, .slice (some ⟨vb, 0, none⟩) 1 1] w (Sl.OwnsAfter B 121 2 (n + 1) (xs.take (i * 2) ++ ys ++ xs.drop (i * 2)) w) := by
  have hvs : ∀ j u, ys[j]? = some u → w.cell? ⟨vb, j, none⟩ = some u := fun j u hj => by
    rw [cell_of_row w vb _ _ 121 (0, 0) hvb]
    simpa using hj
  by_cases hi : i = n
  · subst hi
    have hl := hown.1
    rw [List.take_of_length_le (by omega), List.drop_eq_nil_of_le (by omega), List.append_nil]
    exact insertL_end B v i xs ys w hown vb hy h1 hvs hB hb
  · obtain ⟨g, cap, rest, rfl, hBg, hgl, hg, hnc, hcm, hl⟩ := Sl.owns_row hown (by omega)
    by_cases hroom : n + 1 ≤ cap
    · exact insertL_shift B g n i cap xs rest ys w hBg hgl hg hown.1 (by omega) hnc hcm hroom hl h1x vb hvb (hvg g rfl) hy h1
    · exact insertL_grow B g n i cap xs rest ys w hBg hgl hg hown.1 (by omega) hnc hcm (by omega) h1x vb (Array.getElem?_eq_some_iff.1 hvb).1 hy h1 hvs hB hb

end Go.Proofs.YtnonfdcbnkdmcaaGreatDoor
