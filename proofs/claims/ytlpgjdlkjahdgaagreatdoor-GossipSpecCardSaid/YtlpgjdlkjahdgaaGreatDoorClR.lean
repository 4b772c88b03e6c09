/- slices.Clone and slices.Insert at []api.Listing and []api.Root -/
import Derived.Test.YtlpgjdlkjahdgaaGreatDoorRow
import Derived.Test.YtlpgjdlkjahdgaaGreatDoorChecked
import Derived.WalkKit
import Derived.WalkLawsBesides
import Derived.WalkSpells
import Derived.Lib.Hide
import Derived.Lib.SliceRun
import Derived.Deep.QuietTactic
import Derived.BigQuiet
namespace Go.Proofs.YtlpgjdlkjahdgaaGreatDoor
open Go.RowKit Go.Mem

theorem infoG : (Tryz.prog.info? 118).map (fun i => (i.zero, i.size, i.bytes)) = some (some (.agg #[.int .i64 0, .int .i64 0, .int .i64 0, .int .i64 0, .bool false]), 5, 40) := by kernel_rfl
theorem sizeG : (Tryz.prog.info? 118).map (·.size) = some 5 := by kernel_rfl

set_option maxRecDepth 20000 in
set_option maxHeartbeats 1000000 in
theorem cloneG_any (a : Option Addr) (n c : Nat) (xs : List Value) (w : World) (H : Sl.Reads w a n c 5 xs) (h1 : ∀ u ∈ xs, u.oneCell' = true) (hb : n * 40 ≤ 140737488355328) :
    Calls Tryz.prog 168 #[.slice a n c] w (Sl.Owns w.heap.size 118 5 n xs w) := by
  have hnil := fun (W : World) => Lib.run_eql_slice_nil (P := Tryz.prog) W 111 118 a n c 0 0 Tryz.underlying111
  obtain ⟨i0, hi, hz0, hz1, hz2⟩ := info_parts infoG
  have hlen := H.len
  cases a with
  | none =>
    obtain ⟨rfl, rfl⟩ := H.nil rfl
    have hx : xs = [] := List.eq_nil_of_length_eq_zero (by simpa using hlen)
    subst hx
    clear hlen
    go_enter Tryz.func168, Tryz.ntmps168
    go_wp2
    go_ret
    exact ⟨_, rfl, World.ownsRow_nil _ _ _ _, Below.refl _ _⟩
  | some ad =>
    have hl := Lib.hid hlen
    clear hlen
    have hb' := Lib.hid hb
    clear hb
    go_enter Tryz.func168, Tryz.ntmps168
    go_wp2_with (at_builtin; refine wpList_append_own _ rfl _ _ 111 rfl w.heap.size 118 i0 _ 5 40 Tryz.underlying111 hi hz0 hz1 hz2 rfl (by decide) _ _ _ rfl (World.ownsRow_made (e := 118) (size := 5) w #[] 0 (Nat.le_refl _) (by unfold maxLen; omega) rfl) ad n c xs rfl hl.out (H.below (w' := w.alloc (.cells #[] 118)) ((Below.refl _ w).alloc (Nat.le_refl _) _) (Nat.le_refl _)).news h1 (by have := hb'.out; unfold maxLen; omega) (by have := hb'.out; omega) (by simp) ?_; intro v' w1 hown hgrow _)
    go_ret
    refine ⟨v', rfl, by simpa using hown, ((Below.refl _ w).alloc (Nat.le_refl _) _).grown hgrow (by simp) (fun k e => by cases e; exact Nat.le_refl _)⟩

theorem infoR : (Tryz.prog.info? 62).map (fun i => (i.zero, i.size, i.bytes)) = some (some (.agg #[.int .i64 0, .int .u8 0, .int .u8 0, .int .u8 0, .int .u8 0, .int .u8 0, .int .u8 0, .int .u8 0, .int .u8 0, .int .u8 0, .int .u8 0, .int .u8 0, .int .u8 0, .int .u8 0, .int .u8 0, .int .u8 0, .int .u8 0, .int .u8 0, .int .u8 0, .int .u8 0, .int .u8 0, .int .u8 0, .int .u8 0, .int .u8 0, .int .u8 0, .int .u8 0, .int .u8 0, .int .u8 0, .int .u8 0, .int .u8 0, .int .u8 0, .int .u8 0, .int .u8 0, .int .u8 0, .int .u8 0, .int .u8 0, .int .u8 0, .int .u8 0, .int .u8 0, .int .u8 0, .int .u8 0, .int .u8 0, .int .u8 0, .int .u8 0, .int .u8 0, .int .u8 0, .int .u8 0, .int .u8 0, .int .u8 0, .int .u8 0, .int .u8 0, .int .u8 0, .int .u8 0, .int .u8 0, .int .u8 0, .int .u8 0, .int .u8 0, .int .u8 0, .int .u8 0, .int .u8 0, .int .u8 0, .int .u8 0, .int .u8 0, .int .u8 0, .int .u8 0, .int .i64 0, .int .i64 0]), 67, 88) := by kernel_rfl
theorem sizeR : (Tryz.prog.info? 62).map (·.size) = some 67 := by kernel_rfl

set_option maxRecDepth 20000 in
set_option maxHeartbeats 1000000 in
theorem cloneR_any (a : Option Addr) (n c : Nat) (xs : List Value) (w : World) (H : Sl.Reads w a n c 67 xs) (h1 : ∀ u ∈ xs, u.oneCell' = true) (hb : n * 88 ≤ 140737488355328) :
    Calls Tryz.prog 92 #[.slice a n c] w (Sl.Owns w.heap.size 62 67 n xs w) := by
  have hnil := fun (W : World) => Lib.run_eql_slice_nil (P := Tryz.prog) W 67 62 a n c 0 0 Tryz.underlying67
  obtain ⟨i0, hi, hz0, hz1, hz2⟩ := info_parts infoR
  have hlen := H.len
  cases a with
  | none =>
    obtain ⟨rfl, rfl⟩ := H.nil rfl
    have hx : xs = [] := List.eq_nil_of_length_eq_zero (by simpa using hlen)
    subst hx
    clear hlen
    go_enter Tryz.func92, Tryz.ntmps92
    go_wp2
    go_ret
    exact ⟨_, rfl, World.ownsRow_nil _ _ _ _, Below.refl _ _⟩
  | some ad =>
    have hl := Lib.hid hlen
    clear hlen
    have hb' := Lib.hid hb
    clear hb
    go_enter Tryz.func92, Tryz.ntmps92
    go_wp2_with (at_builtin; refine wpList_append_own _ rfl _ _ 67 rfl w.heap.size 62 i0 _ 67 88 Tryz.underlying67 hi hz0 hz1 hz2 rfl (by decide) _ _ _ rfl (World.ownsRow_made (e := 62) (size := 67) w #[] 0 (Nat.le_refl _) (by unfold maxLen; omega) rfl) ad n c xs rfl hl.out (H.below (w' := w.alloc (.cells #[] 62)) ((Below.refl _ w).alloc (Nat.le_refl _) _) (Nat.le_refl _)).news h1 (by have := hb'.out; unfold maxLen; omega) (by have := hb'.out; omega) (by simp) ?_; intro v' w1 hown hgrow _)
    go_ret
    refine ⟨v', rfl, by simpa using hown, ((Below.refl _ w).alloc (Nat.le_refl _) _).grown hgrow (by simp) (fun k e => by cases e; exact Nat.le_refl _)⟩
set_option maxRecDepth 20000 in
set_option maxHeartbeats 1000000 in
/-- slices.Insert at the end. -/
theorem insertG_end (B : Nat) (v : Value) (n : Nat) (xs ys : List Value) (w : World) (hown : w.ownsRow B 118 5 v n xs) (vb : Nat) (hy : ys.length = 5) (h1 : ∀ u ∈ ys, u.oneCell' = true)
    (hvs : ∀ j u, ys[j]? = some u → w.cell? ⟨vb, j, none⟩ = some u) (hB : B ≤ w.heap.size) (hb : (n + 1) * 40 ≤ 140737488355328) :
    Calls Tryz.prog 169 #[v, .int .i64 n, .slice (some ⟨vb, 0, none⟩) 1 1] w (Sl.OwnsAfter B 118 5 (n + 1) (xs ++ ys) w) := by
  obtain ⟨i0, hi, hz0, hz1, hz2⟩ := info_parts infoG
  obtain ⟨a, c, hv, R, hbl⟩ := Sl.of_owns hown
  have hle := R.le
  have hmx := R.max
  unfold maxLen at hmx
  have hown' := Lib.hid hown
  have hv' := Lib.hid hv
  have hvs' : Hid (∀ j u, ys[j]? = some u → w.cell? ((⟨vb, 0, none⟩ : Addr).add j) = some u) := fun j u hj => by rw [Addr.add_lit, Nat.zero_add]; exact hvs j u hj
  have hy' := Lib.hid hy
  have hb' := Lib.hid hb
  have hbl' := Lib.hid hbl
  clear hown hvs hy hb hbl R
  rw [hv]
  clear hv
  go_enter Tryz.func169, Tryz.ntmps169
  go_wp2_with (at_builtin; refine wpList_append_own _ rfl _ _ 111 rfl B 118 i0 _ 5 40 Tryz.underlying111 hi hz0 hz1 hz2 rfl (by decide) _ n xs rfl (hv'.out ▸ hown'.out) ⟨vb, 0, none⟩ 1 1 ys rfl hy'.out hvs'.out h1 (by have := hb'.out; unfold maxLen; omega) hb'.out hB ?_; intro v' w1 hown1 hgrow _)
  all_goals
    go_ret
    exact ⟨v', rfl, hown1, (Below.refl _ _).grown hgrow hB (fun k e => by cases a with
      | none => cases e
      | some ad => cases e; exact (hbl'.out ad rfl).1)⟩


set_option maxRecDepth 20000 in
set_option maxHeartbeats 1000000 in
/-- slices.Insert in the middle, no room. -/
theorem insertG_grow (B : Nat) (g n i cap : Nat) (xs rest ys : List Value) (w : World) (_hBg : B ≤ g) (hgl : g < w.heap.size) (hg : w.heap[g]? = some (.cells (xs ++ rest).toArray 118 (0, 0))) (hx : xs.length = n * 5) (hin : i < n) (hnc : n ≤ cap) (hcm : cap ≤ maxLen)
    (hfull : cap < n + 1) (h1x : ∀ u ∈ xs, u.oneCell' = true)
    (vb : Nat) (hvb : vb < w.heap.size) (hy : ys.length = 5) (h1 : ∀ u ∈ ys, u.oneCell' = true)
    (hvs : ∀ j u, ys[j]? = some u → w.cell? ⟨vb, j, none⟩ = some u) (hB : B ≤ w.heap.size) (hb : (n + 1) * 40 ≤ 140737488355328) :
    Calls Tryz.prog 169 #[.slice (some ⟨g, 0, none⟩) n cap, .int .i64 i, .slice (some ⟨vb, 0, none⟩) 1 1] w (Sl.OwnsAfter B 118 5 (n + 1) (xs.take (i * 5) ++ ys ++ xs.drop (i * 5)) w) := by
  unfold maxLen at hcm
  obtain rfl : cap = n := by omega
  obtain ⟨i0, hi, hz0, hz1, hz2⟩ := info_parts infoG
  have hne : ¬ (cap : Int) = (i : Int) := by omega
  have hne2 : ¬ (i : Int) = (cap : Int) := by omega
  have hne3 : ¬ cap = i := by omega
  have hin' : (i : Int) < (cap : Int) := by omega
  have hcb : (cap : Int) ≤ 4398046511104 := by omega
  have hcell : ∀ j u, xs[j]? = some u → w.cell? ⟨g, j, none⟩ = some u := fun j u hj => by
    rw [cell_of_row w g j _ 118 (0, 0) hg]
    have := (List.getElem?_eq_some_iff.1 hj).1
    simpa [List.getElem?_append_left this] using hj
  have hx3 : i * 5 ≤ xs.length := by omega
  obtain ⟨c2, W1, Z, hr1, hc2, hc2m, hW1, hZ, hb1, hs1⟩ := Sl.append_zeros (P := Tryz.prog) w 111 3 118 i0 _ .i64 5 40 Tryz.underlying111 Tryz.underlying3 hi hz0 hz1 hz2 rfl ⟨g, 0, none⟩ i cap (cap + 1 - i) (cap + 1) (xs.take (i * 5)) (by simp; omega)
    (fun j u hj => by rw [Addr.add_lit, Nat.zero_add]; rw [List.getElem?_take] at hj; split at hj; exact hcell j u hj; cases hj) ((cap : Int) + 1 - (i : Int)) (by omega) (by omega) (by omega) (by omega) (by omega) hb (by omega)
  have hpl : (xs.take (i * 5)).length = i * 5 := by rw [List.length_take]; omega
  unfold maxLen at hc2m
  have hvs1 : ∀ j u, ys[j]? = some u → W1.cell? ((⟨vb, 0, none⟩ : Addr).add j) = some u := fun j u hj => by
    rw [Addr.add_lit, Nat.zero_add, hb1.cell (p := ⟨vb, j, none⟩) hvb]; exact hvs j u hj
  obtain ⟨W2, hr2, hW2, hg2, hs2⟩ := Sl.copy_row (P := Tryz.prog) W1 111 111 118 w.heap.size (i * 5) (cap + 1 - i) ⟨vb, 0, none⟩ 1 1 5 118 (xs.take (i * 5)) (Z.take 5) (Z.drop 5) ys Tryz.underlying111 sizeG (by rw [List.append_assoc, List.take_append_drop]; exact hW1) hpl
    (by rw [List.length_take, hy]; omega) (by simp [Nat.min_def]; omega) (by omega) hvs1 h1
  have hZ1 : ((Z.drop 5).take ((cap - i) * 5)).length = (xs.drop (i * 5)).length := by simp; omega
  have hcell2 : ∀ j u, (xs.drop (i * 5))[j]? = some u → W2.drew.cell? ((⟨g, i * 5, none⟩ : Addr).add j) = some u := fun j u hj => by
    rw [Addr.add_lit]
    rw [List.getElem?_drop] at hj
    refine hg2.cell (w := W1) (a := ⟨g, i * 5 + j, none⟩) ?_ (by simp; omega)
    rw [hb1.cell (p := ⟨g, _, none⟩) hgl]
    exact hcell _ u hj
  obtain ⟨W3, hr3, hW3, hg3, hs3⟩ := Sl.copy_row (P := Tryz.prog) W2.drew 111 111 118 w.heap.size ((i + 1) * 5) (cap - i) ⟨g, i * 5, none⟩ (cap - i) (cap - i) 5 118 (xs.take (i * 5) ++ ys) ((Z.drop 5).take ((cap - i) * 5)) ((Z.drop 5).drop ((cap - i) * 5)) (xs.drop (i * 5)) Tryz.underlying111 sizeG
    (by rw [List.append_assoc _ _ ((Z.drop 5).drop _), List.take_append_drop]; exact hW2) (by simp [hpl, hy]; omega) hZ1 (by simp ) (by simp; omega) hcell2 (fun u hu => h1x u (List.mem_of_mem_drop hu))
  have hfin : Hid (Sl.OwnsAfter B 118 5 (cap + 1) (xs.take (i * 5) ++ ys ++ xs.drop (i * 5)) w (.returned (.slice (some ⟨w.heap.size, 0, none⟩) (cap + 1) c2)) W3) := by
    refine ⟨_, rfl, Sl.owns_mk hB hW3 (by simp [hy]; omega) hc2 (by unfold maxLen; omega) ?_, ?_⟩
    · simp [hy]; simp [hpl] at hZ; omega
    · exact (((hb1.mono hB).grown hg2 (by omega) (fun k e => by cases e; exact hB)).drew).grown hg3 (by show B ≤ W2.heap.size; omega) (fun k e => by cases e; exact hB)
  clear hcell hcell2 hvs hvs1 hW1 hW2 hW3 hg2 hg3 hg h1x h1 hZ hZ1 hb1 hs1 hs2 hs3 hx hx3 hpl hy hi hz0 hz1 hz2
  go_enter Tryz.func169, Tryz.ntmps169
  go_wp2_with (first
    | (at_builtin; refine Lib.wpList_append_run _ rfl _ _ _ _ rfl _ _ rfl rfl _ _ (hr1 _) ?_)
    | (with_reducible refine Sl.wpList_copy_run _ rfl _ _ _ _ rfl _ _ rfl rfl _ _ (hr2 _ _ _) ?_))
  have hn1 : ¬ (c2 = i + 1) := by omega
  have hn2 : ((i : Int) + 1).toNat = i + 1 := by omega
  have hn3 : IntKind.i64.wrap ((i : Int) + 1) = (i : Int) + 1 := IntWalk.i64_in _ (by omega)
  have hn4 : (0 : Int) ≤ (i : Int) + 1 := by omega
  have hn5 : (i : Int) + 1 ≤ (cap : Int) + 1 := by omega
  have hn6 : (i : Int) ≤ (cap : Int) := by omega
  go_region_law (refine Sl.step_copy_run rfl _ _ 111 111 rfl _ _ (by simp [Act.eval, Act.put]) (by simp [Act.eval, Act.put]) _ _ (hr3 _ _ _) ?_)
  go_wp2
  go_ret
  exact hfin.out


set_option maxRecDepth 20000 in
set_option maxHeartbeats 1000000 in
/-- slices.Insert in the middle, there is room. -/
theorem insertG_shift (B : Nat) (g n i cap : Nat) (xs rest ys : List Value) (w : World) (hBg : B ≤ g) (hgl : g < w.heap.size) (hg : w.heap[g]? = some (.cells (xs ++ rest).toArray 118 (0, 0))) (hx : xs.length = n * 5) (hin : i < n) (_hnc : n ≤ cap) (hcm : cap ≤ maxLen)
    (hroom : n + 1 ≤ cap) (hrest : xs.length + rest.length = cap * 5) (h1x : ∀ u ∈ xs, u.oneCell' = true)
    (vb : Nat) (hvb : w.heap[vb]? = some (.cells ys.toArray 118 (0, 0))) (hvg : vb ≠ g) (hy : ys.length = 5) (h1 : ∀ u ∈ ys, u.oneCell' = true) :
    Calls Tryz.prog 169 #[.slice (some ⟨g, 0, none⟩) n cap, .int .i64 i, .slice (some ⟨vb, 0, none⟩) 1 1] w (Sl.OwnsAfter B 118 5 (n + 1) (xs.take (i * 5) ++ ys ++ xs.drop (i * 5)) w) := by
  unfold maxLen at hcm
  have hpl : (xs.take (i * 5)).length = i * 5 := by rw [List.length_take]; omega
  have hLl : (xs ++ rest).length = cap * 5 := by simpa using hrest
  have hcell : ∀ j u, (xs.drop (i * 5))[j]? = some u → w.drew.cell? ((⟨g, i * 5, none⟩ : Addr).add j) = some u := fun j u hj => by
    rw [Addr.add_lit]
    show w.cell? ⟨g, i * 5 + j, none⟩ = _
    rw [cell_of_row w g _ _ 118 (0, 0) hg]
    rw [List.getElem?_drop] at hj
    have := (List.getElem?_eq_some_iff.1 hj).1
    simpa [List.getElem?_append_left this] using hj
  obtain ⟨W1, hr1, hW1, hg1, hs1⟩ := Sl.copy_row (P := Tryz.prog) w.drew 111 111 118 g ((i + 1) * 5) (n - i) ⟨g, i * 5, none⟩ (n + 1 - i) (n - i) 5 118 ((xs ++ rest).take ((i + 1) * 5)) (((xs ++ rest).drop ((i + 1) * 5)).take ((n - i) * 5)) (((xs ++ rest).drop ((i + 1) * 5)).drop ((n - i) * 5)) (xs.drop (i * 5)) Tryz.underlying111 sizeG
    (by rw [List.append_assoc, List.take_append_drop, List.take_append_drop]; exact hg) (by rw [List.length_take]; omega) (by rw [List.length_take, List.length_drop, List.length_drop]; omega) (by simp [Nat.min_def]; omega) (by rw [List.length_drop]; omega) hcell (fun u hu => h1x u (List.mem_of_mem_drop hu))
  have hsplit : (xs ++ rest).take ((i + 1) * 5) = xs.take (i * 5) ++ ((xs ++ rest).drop (i * 5)).take 5 := by
    rw [show (i + 1) * 5 = i * 5 + 5 by omega, List.take_add, List.take_append_of_le_length (by omega)]
  have hvs1 : ∀ j u, ys[j]? = some u → W1.cell? ((⟨vb, 0, none⟩ : Addr).add j) = some u := fun j u hj => by
    rw [Addr.add_lit, Nat.zero_add]
    refine hg1.cell (w := w.drew) (a := ⟨vb, j, none⟩) ?_ (by simpa using hvg)
    show w.cell? _ = _
    rw [cell_of_row w vb _ _ 118 (0, 0) hvb]
    simpa using hj
  obtain ⟨W2, hr2, hW2, hg2, hs2⟩ := Sl.copy_row (P := Tryz.prog) W1 111 111 118 g (i * 5) (n + 1 - i) ⟨vb, 0, none⟩ 1 1 5 118 (xs.take (i * 5)) (((xs ++ rest).drop (i * 5)).take 5) (xs.drop (i * 5) ++ ((xs ++ rest).drop ((i + 1) * 5)).drop ((n - i) * 5)) ys Tryz.underlying111 sizeG
    (by rw [← hsplit, ← List.append_assoc]; exact hW1) hpl (by rw [List.length_take, List.length_drop, hy]; omega) (by simp [Nat.min_def]; omega) (by omega) hvs1 h1
  have hfin : Hid (Sl.OwnsAfter B 118 5 (n + 1) (xs.take (i * 5) ++ ys ++ xs.drop (i * 5)) w (.returned (.slice (some ⟨g, 0, none⟩) (n + 1) cap)) W2) := by
    refine ⟨_, rfl, Sl.owns_mk hBg (rest := ((xs ++ rest).drop ((i + 1) * 5)).drop ((n - i) * 5)) (by rw [List.append_assoc _ (xs.drop _)]; exact hW2) (by simp [hy]; omega) hroom (by unfold maxLen; omega) ?_, ?_⟩
    · simp only [List.length_append, List.length_drop, List.length_take, hy]; rw [List.length_append] at hLl; omega
    · exact (((Below.refl B w).drew).grown hg1 (by show B ≤ w.heap.size; omega) (fun k e => by cases e; exact hBg)).grown hg2 (by rw [hs1]; show B ≤ w.heap.size; omega) (fun k e => by cases e; exact hBg)
  have hov : ∀ lb cb, (callFunc 205 #[.slice (some ⟨vb, 0, none⟩) 1 1, .slice (some ⟨g, (i + 1) * 5, none⟩) lb cb]).run Tryz.prog w = .ok (.value (.bool false)) w := fun lb cb => by
    rw [run_callFunc_extern Tryz.func205 (by kernel_rfl) (by kernel_rfl) (by kernel_rfl) (e := Extern.SlicesOverlaps.overlaps #[111, 111] #[4]) (by kernel_rfl),
      Lib.run_overlaps_apart w 111 4 118 Tryz.underlying111 5 (fun w => by kernel_rfl) ⟨vb, 0, none⟩ ⟨g, (i + 1) * 5, none⟩ 1 1 lb cb hvg 118 118 5 (cap * 5) (by simp [World.shape?, hvb, hy]) (by simp only [World.shape?, hg]; simpa using hLl) (by omega) (by simp [World.frozen?, hvb]) (by simp [World.frozen?, hvb])]
    rfl
  have hne : ¬ (cap : Int) = (i : Int) := by omega
  have hne2 : ¬ (i : Int) = (n : Int) := by omega
  have hne3 : ¬ cap = i := by omega
  have hne4 : ¬ (cap : Int) < (n : Int) + 1 := by omega
  have hin' : (i : Int) < (n : Int) := by omega
  have hcb : (cap : Int) ≤ 9223372036854775807 := by omega
  have hn1 : ¬ (cap = i + 1) := by omega
  have hn2 : ((i : Int) + 1).toNat = i + 1 := by omega
  have hn3 : IntKind.i64.wrap ((i : Int) + 1) = (i : Int) + 1 := IntWalk.i64_in _ (by omega)
  have hn4 : (0 : Int) ≤ (i : Int) + 1 := by omega
  have hn5 : (i : Int) + 1 ≤ (n : Int) + 1 := by omega
  have hn6 : (i : Int) ≤ (n : Int) + 1 := by omega
  clear hcell hvs1 hW1 hW2 hg2 hg1 hg h1x h1 hs1 hs2 hx hpl hy hLl hrest hsplit hvb
  go_enter Tryz.func169, Tryz.ntmps169
  go_wp2_with (simp only [hov])
  go_region_law (refine Sl.step_copy_run rfl _ _ 111 111 rfl _ _ (by simp [Act.eval, Act.put]) (by simp [Act.eval, Act.put]) _ _ (hr1 _ _ _) ?_)
  go_wp2_with (with_reducible refine Sl.wpList_copy_run _ rfl _ _ _ _ rfl _ _ rfl rfl _ _ (hr2 _ _ _) ?_)
  go_ret
  exact hfin.out


/-- slices.Insert of one element into a slice of the call's own. -/
theorem insertG_any (B : Nat) (v : Value) (n i : Nat) (xs ys : List Value) (w : World) (hown : w.ownsRow B 118 5 v n xs) (hin : i ≤ n) (h1x : ∀ u ∈ xs, u.oneCell' = true)
    (vb : Nat) (hvb : w.heap[vb]? = some (.cells ys.toArray 118 (0, 0))) (hvg : ∀ k, v.ownBlock = some k → vb ≠ k) (hy : ys.length = 5) (h1 : ∀ u ∈ ys, u.oneCell' = true) (hB : B ≤ w.heap.size) (hb : (n + 1) * 40 ≤ 140737488355328) :
    Calls Tryz.prog 169 #[v, .int .i64 i, .slice (some ⟨vb, 0, none⟩) 1 1] w (Sl.OwnsAfter B 118 5 (n + 1) (xs.take (i * 5) ++ ys ++ xs.drop (i * 5)) w) := by
  have hvs : ∀ j u, ys[j]? = some u → w.cell? ⟨vb, j, none⟩ = some u := fun j u hj => by
    rw [cell_of_row w vb _ _ 118 (0, 0) hvb]
    simpa using hj
  by_cases hi : i = n
  · subst hi
    have hl := hown.1
    rw [List.take_of_length_le (by omega), List.drop_eq_nil_of_le (by omega), List.append_nil]
    exact insertG_end B v i xs ys w hown vb hy h1 hvs hB hb
  · obtain ⟨g, cap, rest, rfl, hBg, hgl, hg, hnc, hcm, hl⟩ := Sl.owns_row hown (by omega)
    by_cases hroom : n + 1 ≤ cap
    · exact insertG_shift B g n i cap xs rest ys w hBg hgl hg hown.1 (by omega) hnc hcm hroom hl h1x vb hvb (hvg g rfl) hy h1
    · exact insertG_grow B g n i cap xs rest ys w hBg hgl hg hown.1 (by omega) hnc hcm (by omega) h1x vb (Array.getElem?_eq_some_iff.1 hvb).1 hy h1 hvs hB hb


set_option maxRecDepth 20000 in
set_option maxHeartbeats 1000000 in
/-- slices.Insert at the end. -/
theorem insertR_end (B : Nat) (v : Value) (n : Nat) (xs ys : List Value) (w : World) (hown : w.ownsRow B 62 67 v n xs) (vb : Nat) (hy : ys.length = 67) (h1 : ∀ u ∈ ys, u.oneCell' = true)
    (hvs : ∀ j u, ys[j]? = some u → w.cell? ⟨vb, j, none⟩ = some u) (hB : B ≤ w.heap.size) (hb : (n + 1) * 88 ≤ 140737488355328) :
    Calls Tryz.prog 91 #[v, .int .i64 n, .slice (some ⟨vb, 0, none⟩) 1 1] w (Sl.OwnsAfter B 62 67 (n + 1) (xs ++ ys) w) := by
  obtain ⟨i0, hi, hz0, hz1, hz2⟩ := info_parts infoR
  obtain ⟨a, c, hv, R, hbl⟩ := Sl.of_owns hown
  have hle := R.le
  have hmx := R.max
  unfold maxLen at hmx
  have hown' := Lib.hid hown
  have hv' := Lib.hid hv
  have hvs' : Hid (∀ j u, ys[j]? = some u → w.cell? ((⟨vb, 0, none⟩ : Addr).add j) = some u) := fun j u hj => by rw [Addr.add_lit, Nat.zero_add]; exact hvs j u hj
  have hy' := Lib.hid hy
  have hb' := Lib.hid hb
  have hbl' := Lib.hid hbl
  clear hown hvs hy hb hbl R
  rw [hv]
  clear hv
  go_enter Tryz.func91, Tryz.ntmps91
  go_wp2_with (at_builtin; refine wpList_append_own _ rfl _ _ 67 rfl B 62 i0 _ 67 88 Tryz.underlying67 hi hz0 hz1 hz2 rfl (by decide) _ n xs rfl (hv'.out ▸ hown'.out) ⟨vb, 0, none⟩ 1 1 ys rfl hy'.out hvs'.out h1 (by have := hb'.out; unfold maxLen; omega) hb'.out hB ?_; intro v' w1 hown1 hgrow _)
  all_goals
    go_ret
    exact ⟨v', rfl, hown1, (Below.refl _ _).grown hgrow hB (fun k e => by cases a with
      | none => cases e
      | some ad => cases e; exact (hbl'.out ad rfl).1)⟩


set_option maxRecDepth 20000 in
set_option maxHeartbeats 1000000 in
/-- slices.Insert in the middle, no room. -/
theorem insertR_grow (B : Nat) (g n i cap : Nat) (xs rest ys : List Value) (w : World) (_hBg : B ≤ g) (hgl : g < w.heap.size) (hg : w.heap[g]? = some (.cells (xs ++ rest).toArray 62 (0, 0))) (hx : xs.length = n * 67) (hin : i < n) (hnc : n ≤ cap) (hcm : cap ≤ maxLen)
    (hfull : cap < n + 1) (h1x : ∀ u ∈ xs, u.oneCell' = true)
    (vb : Nat) (hvb : vb < w.heap.size) (hy : ys.length = 67) (h1 : ∀ u ∈ ys, u.oneCell' = true)
    (hvs : ∀ j u, ys[j]? = some u → w.cell? ⟨vb, j, none⟩ = some u) (hB : B ≤ w.heap.size) (hb : (n + 1) * 88 ≤ 140737488355328) :
    Calls Tryz.prog 91 #[.slice (some ⟨g, 0, none⟩) n cap, .int .i64 i, .slice (some ⟨vb, 0, none⟩) 1 1] w (Sl.OwnsAfter B 62 67 (n + 1) (xs.take (i * 67) ++ ys ++ xs.drop (i * 67)) w) := by
  unfold maxLen at hcm
  obtain rfl : cap = n := by omega
  obtain ⟨i0, hi, hz0, hz1, hz2⟩ := info_parts infoR
  have hne : ¬ (cap : Int) = (i : Int) := by omega
  have hne2 : ¬ (i : Int) = (cap : Int) := by omega
  have hne3 : ¬ cap = i := by omega
  have hin' : (i : Int) < (cap : Int) := by omega
  have hcb : (cap : Int) ≤ 4398046511104 := by omega
  have hcell : ∀ j u, xs[j]? = some u → w.cell? ⟨g, j, none⟩ = some u := fun j u hj => by
    rw [cell_of_row w g j _ 62 (0, 0) hg]
    have := (List.getElem?_eq_some_iff.1 hj).1
    simpa [List.getElem?_append_left this] using hj
  have hx3 : i * 67 ≤ xs.length := by omega
  obtain ⟨c2, W1, Z, hr1, hc2, hc2m, hW1, hZ, hb1, hs1⟩ := Sl.append_zeros (P := Tryz.prog) w 67 3 62 i0 _ .i64 67 88 Tryz.underlying67 Tryz.underlying3 hi hz0 hz1 hz2 rfl ⟨g, 0, none⟩ i cap (cap + 1 - i) (cap + 1) (xs.take (i * 67)) (by simp; omega)
    (fun j u hj => by rw [Addr.add_lit, Nat.zero_add]; rw [List.getElem?_take] at hj; split at hj; exact hcell j u hj; cases hj) ((cap : Int) + 1 - (i : Int)) (by omega) (by omega) (by omega) (by omega) (by omega) hb (by omega)
  have hpl : (xs.take (i * 67)).length = i * 67 := by rw [List.length_take]; omega
  unfold maxLen at hc2m
  have hvs1 : ∀ j u, ys[j]? = some u → W1.cell? ((⟨vb, 0, none⟩ : Addr).add j) = some u := fun j u hj => by
    rw [Addr.add_lit, Nat.zero_add, hb1.cell (p := ⟨vb, j, none⟩) hvb]; exact hvs j u hj
  obtain ⟨W2, hr2, hW2, hg2, hs2⟩ := Sl.copy_row (P := Tryz.prog) W1 67 67 62 w.heap.size (i * 67) (cap + 1 - i) ⟨vb, 0, none⟩ 1 1 67 62 (xs.take (i * 67)) (Z.take 67) (Z.drop 67) ys Tryz.underlying67 sizeR (by rw [List.append_assoc, List.take_append_drop]; exact hW1) hpl
    (by rw [List.length_take, hy]; omega) (by simp [Nat.min_def]; omega) (by omega) hvs1 h1
  have hZ1 : ((Z.drop 67).take ((cap - i) * 67)).length = (xs.drop (i * 67)).length := by simp; omega
  have hcell2 : ∀ j u, (xs.drop (i * 67))[j]? = some u → W2.drew.cell? ((⟨g, i * 67, none⟩ : Addr).add j) = some u := fun j u hj => by
    rw [Addr.add_lit]
    rw [List.getElem?_drop] at hj
    refine hg2.cell (w := W1) (a := ⟨g, i * 67 + j, none⟩) ?_ (by simp; omega)
    rw [hb1.cell (p := ⟨g, _, none⟩) hgl]
    exact hcell _ u hj
  obtain ⟨W3, hr3, hW3, hg3, hs3⟩ := Sl.copy_row (P := Tryz.prog) W2.drew 67 67 62 w.heap.size ((i + 1) * 67) (cap - i) ⟨g, i * 67, none⟩ (cap - i) (cap - i) 67 62 (xs.take (i * 67) ++ ys) ((Z.drop 67).take ((cap - i) * 67)) ((Z.drop 67).drop ((cap - i) * 67)) (xs.drop (i * 67)) Tryz.underlying67 sizeR
    (by rw [List.append_assoc _ _ ((Z.drop 67).drop _), List.take_append_drop]; exact hW2) (by simp [hpl, hy]; omega) hZ1 (by simp ) (by simp; omega) hcell2 (fun u hu => h1x u (List.mem_of_mem_drop hu))
  have hfin : Hid (Sl.OwnsAfter B 62 67 (cap + 1) (xs.take (i * 67) ++ ys ++ xs.drop (i * 67)) w (.returned (.slice (some ⟨w.heap.size, 0, none⟩) (cap + 1) c2)) W3) := by
    refine ⟨_, rfl, Sl.owns_mk hB hW3 (by simp [hy]; omega) hc2 (by unfold maxLen; omega) ?_, ?_⟩
    · simp [hy]; simp [hpl] at hZ; omega
    · exact (((hb1.mono hB).grown hg2 (by omega) (fun k e => by cases e; exact hB)).drew).grown hg3 (by show B ≤ W2.heap.size; omega) (fun k e => by cases e; exact hB)
  clear hcell hcell2 hvs hvs1 hW1 hW2 hW3 hg2 hg3 hg h1x h1 hZ hZ1 hb1 hs1 hs2 hs3 hx hx3 hpl hy hi hz0 hz1 hz2
  go_enter Tryz.func91, Tryz.ntmps91
  go_wp2_with (first
    | (at_builtin; refine Lib.wpList_append_run _ rfl _ _ _ _ rfl _ _ rfl rfl _ _ (hr1 _) ?_)
    | (with_reducible refine Sl.wpList_copy_run _ rfl _ _ _ _ rfl _ _ rfl rfl _ _ (hr2 _ _ _) ?_))
  have hn1 : ¬ (c2 = i + 1) := by omega
  have hn2 : ((i : Int) + 1).toNat = i + 1 := by omega
  have hn3 : IntKind.i64.wrap ((i : Int) + 1) = (i : Int) + 1 := IntWalk.i64_in _ (by omega)
  have hn4 : (0 : Int) ≤ (i : Int) + 1 := by omega
  have hn5 : (i : Int) + 1 ≤ (cap : Int) + 1 := by omega
  have hn6 : (i : Int) ≤ (cap : Int) := by omega
  go_region_law (refine Sl.step_copy_run rfl _ _ 67 67 rfl _ _ (by simp [Act.eval, Act.put]) (by simp [Act.eval, Act.put]) _ _ (hr3 _ _ _) ?_)
  go_wp2
  go_ret
  exact hfin.out


set_option maxRecDepth 20000 in
set_option maxHeartbeats 1000000 in
/-- slices.Insert in the middle, there is room. -/
theorem insertR_shift (B : Nat) (g n i cap : Nat) (xs rest ys : List Value) (w : World) (hBg : B ≤ g) (hgl : g < w.heap.size) (hg : w.heap[g]? = some (.cells (xs ++ rest).toArray 62 (0, 0))) (hx : xs.length = n * 67) (hin : i < n) (_hnc : n ≤ cap) (hcm : cap ≤ maxLen)
    (hroom : n + 1 ≤ cap) (hrest : xs.length + rest.length = cap * 67) (h1x : ∀ u ∈ xs, u.oneCell' = true)
    (vb : Nat) (hvb : w.heap[vb]? = some (.cells ys.toArray 62 (0, 0))) (hvg : vb ≠ g) (hy : ys.length = 67) (h1 : ∀ u ∈ ys, u.oneCell' = true) :
    Calls Tryz.prog 91 #[.slice (some ⟨g, 0, none⟩) n cap, .int .i64 i, .slice (some ⟨vb, 0, none⟩) 1 1] w (Sl.OwnsAfter B 62 67 (n + 1) (xs.take (i * 67) ++ ys ++ xs.drop (i * 67)) w) := by
  unfold maxLen at hcm
  have hpl : (xs.take (i * 67)).length = i * 67 := by rw [List.length_take]; omega
  have hLl : (xs ++ rest).length = cap * 67 := by simpa using hrest
  have hcell : ∀ j u, (xs.drop (i * 67))[j]? = some u → w.drew.cell? ((⟨g, i * 67, none⟩ : Addr).add j) = some u := fun j u hj => by
    rw [Addr.add_lit]
    show w.cell? ⟨g, i * 67 + j, none⟩ = _
    rw [cell_of_row w g _ _ 62 (0, 0) hg]
    rw [List.getElem?_drop] at hj
    have := (List.getElem?_eq_some_iff.1 hj).1
    simpa [List.getElem?_append_left this] using hj
  obtain ⟨W1, hr1, hW1, hg1, hs1⟩ := Sl.copy_row (P := Tryz.prog) w.drew 67 67 62 g ((i + 1) * 67) (n - i) ⟨g, i * 67, none⟩ (n + 1 - i) (n - i) 67 62 ((xs ++ rest).take ((i + 1) * 67)) (((xs ++ rest).drop ((i + 1) * 67)).take ((n - i) * 67)) (((xs ++ rest).drop ((i + 1) * 67)).drop ((n - i) * 67)) (xs.drop (i * 67)) Tryz.underlying67 sizeR
    (by rw [List.append_assoc, List.take_append_drop, List.take_append_drop]; exact hg) (by rw [List.length_take]; omega) (by rw [List.length_take, List.length_drop, List.length_drop]; omega) (by simp [Nat.min_def]; omega) (by rw [List.length_drop]; omega) hcell (fun u hu => h1x u (List.mem_of_mem_drop hu))
  have hsplit : (xs ++ rest).take ((i + 1) * 67) = xs.take (i * 67) ++ ((xs ++ rest).drop (i * 67)).take 67 := by
    rw [show (i + 1) * 67 = i * 67 + 67 by omega, List.take_add, List.take_append_of_le_length (by omega)]
  have hvs1 : ∀ j u, ys[j]? = some u → W1.cell? ((⟨vb, 0, none⟩ : Addr).add j) = some u := fun j u hj => by
    rw [Addr.add_lit, Nat.zero_add]
    refine hg1.cell (w := w.drew) (a := ⟨vb, j, none⟩) ?_ (by simpa using hvg)
    show w.cell? _ = _
    rw [cell_of_row w vb _ _ 62 (0, 0) hvb]
    simpa using hj
  obtain ⟨W2, hr2, hW2, hg2, hs2⟩ := Sl.copy_row (P := Tryz.prog) W1 67 67 62 g (i * 67) (n + 1 - i) ⟨vb, 0, none⟩ 1 1 67 62 (xs.take (i * 67)) (((xs ++ rest).drop (i * 67)).take 67) (xs.drop (i * 67) ++ ((xs ++ rest).drop ((i + 1) * 67)).drop ((n - i) * 67)) ys Tryz.underlying67 sizeR
    (by rw [← hsplit, ← List.append_assoc]; exact hW1) hpl (by rw [List.length_take, List.length_drop, hy]; omega) (by simp [Nat.min_def]; omega) (by omega) hvs1 h1
  have hfin : Hid (Sl.OwnsAfter B 62 67 (n + 1) (xs.take (i * 67) ++ ys ++ xs.drop (i * 67)) w (.returned (.slice (some ⟨g, 0, none⟩) (n + 1) cap)) W2) := by
    refine ⟨_, rfl, Sl.owns_mk hBg (rest := ((xs ++ rest).drop ((i + 1) * 67)).drop ((n - i) * 67)) (by rw [List.append_assoc _ (xs.drop _)]; exact hW2) (by simp [hy]; omega) hroom (by unfold maxLen; omega) ?_, ?_⟩
    · simp only [List.length_append, List.length_drop, List.length_take, hy]; rw [List.length_append] at hLl; omega
    · exact (((Below.refl B w).drew).grown hg1 (by show B ≤ w.heap.size; omega) (fun k e => by cases e; exact hBg)).grown hg2 (by rw [hs1]; show B ≤ w.heap.size; omega) (fun k e => by cases e; exact hBg)
  have hov : ∀ lb cb, (callFunc 136 #[.slice (some ⟨vb, 0, none⟩) 1 1, .slice (some ⟨g, (i + 1) * 67, none⟩) lb cb]).run Tryz.prog w = .ok (.value (.bool false)) w := fun lb cb => by
    rw [run_callFunc_extern Tryz.func136 (by kernel_rfl) (by kernel_rfl) (by kernel_rfl) (e := Extern.SlicesOverlaps.overlaps #[67, 67] #[4]) (by kernel_rfl),
      Lib.run_overlaps_apart w 67 4 62 Tryz.underlying67 67 (fun w => by kernel_rfl) ⟨vb, 0, none⟩ ⟨g, (i + 1) * 67, none⟩ 1 1 lb cb hvg 62 62 67 (cap * 67) (by simp [World.shape?, hvb, hy]) (by simp only [World.shape?, hg]; simpa using hLl) (by omega) (by simp [World.frozen?, hvb]) (by simp [World.frozen?, hvb])]
    rfl
  have hne : ¬ (cap : Int) = (i : Int) := by omega
  have hne2 : ¬ (i : Int) = (n : Int) := by omega
  have hne3 : ¬ cap = i := by omega
  have hne4 : ¬ (cap : Int) < (n : Int) + 1 := by omega
  have hin' : (i : Int) < (n : Int) := by omega
  have hcb : (cap : Int) ≤ 9223372036854775807 := by omega
  have hn1 : ¬ (cap = i + 1) := by omega
  have hn2 : ((i : Int) + 1).toNat = i + 1 := by omega
  have hn3 : IntKind.i64.wrap ((i : Int) + 1) = (i : Int) + 1 := IntWalk.i64_in _ (by omega)
  have hn4 : (0 : Int) ≤ (i : Int) + 1 := by omega
  have hn5 : (i : Int) + 1 ≤ (n : Int) + 1 := by omega
  have hn6 : (i : Int) ≤ (n : Int) + 1 := by omega
  clear hcell hvs1 hW1 hW2 hg2 hg1 hg h1x h1 hs1 hs2 hx hpl hy hLl hrest hsplit hvb
  go_enter Tryz.func91, Tryz.ntmps91
  go_wp2_with (simp only [hov])
  go_region_law (refine Sl.step_copy_run rfl _ _ 67 67 rfl _ _ (by simp [Act.eval, Act.put]) (by simp [Act.eval, Act.put]) _ _ (hr1 _ _ _) ?_)
  go_wp2_with (with_reducible refine Sl.wpList_copy_run _ rfl _ _ _ _ rfl _ _ rfl rfl _ _ (hr2 _ _ _) ?_)
  go_ret
  exact hfin.out


/-- slices.Insert of one element into a slice of the call's own. -/
theorem insertR_any (B : Nat) (v : Value) (n i : Nat) (xs ys : List Value) (w : World) (hown : w.ownsRow B 62 67 v n xs) (hin : i ≤ n) (h1x : ∀ u ∈ xs, u.oneCell' = true)
    (vb : Nat) (hvb : w.heap[vb]? = some (.cells ys.toArray 62 (0, 0))) (hvg : ∀ k, v.ownBlock = some k → vb ≠ k) (hy : ys.length = 67) (h1 : ∀ u ∈ ys, u.oneCell' = true) (hB : B ≤ w.heap.size) (hb : (n + 1) * 88 ≤ 140737488355328) :
    Calls Tryz.prog 91 #[v, .int .i64 i, .slice (some ⟨vb, 0, none⟩) 1 1] w (Sl.OwnsAfter B 62 67 (n + 1) (xs.take (i * 67) ++ ys ++ xs.drop (i * 67)) w) := by
  have hvs : ∀ j u, ys[j]? = some u → w.cell? ⟨vb, j, none⟩ = some u := fun j u hj => by
    rw [cell_of_row w vb _ _ 62 (0, 0) hvb]
    simpa using hj
  by_cases hi : i = n
  · subst hi
    have hl := hown.1
    rw [List.take_of_length_le (by omega), List.drop_eq_nil_of_le (by omega), List.append_nil]
    exact insertR_end B v i xs ys w hown vb hy h1 hvs hB hb
  · obtain ⟨g, cap, rest, rfl, hBg, hgl, hg, hnc, hcm, hl⟩ := Sl.owns_row hown (by omega)
    by_cases hroom : n + 1 ≤ cap
    · exact insertR_shift B g n i cap xs rest ys w hBg hgl hg hown.1 (by omega) hnc hcm hroom hl h1x vb hvb (hvg g rfl) hy h1
    · exact insertR_grow B g n i cap xs rest ys w hBg hgl hg hown.1 (by omega) hnc hcm (by omega) h1x vb (Array.getElem?_eq_some_iff.1 hvb).1 hy h1 hvs hB hb

end Go.Proofs.YtlpgjdlkjahdgaaGreatDoor
