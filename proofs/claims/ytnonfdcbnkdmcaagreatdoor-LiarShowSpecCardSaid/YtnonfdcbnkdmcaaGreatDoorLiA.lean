/- slices.Insert at []api.Entry slices.Delete of one element at []api.Entry lies, plainly; a list of entries of the call's own whose data lie in any other block liar.forked liar: entries replaced in place: fork and swap liar: two entries changed places liar.kinds, and liar.Check -/
import Derived.Test.YtnonfdcbnkdmcaaGreatDoorAl
import Derived.Test.YtnonfdcbnkdmcaaGreatDoorVwE
import Derived.Test.YtnonfdcbnkdmcaaGreatDoorRow
import Derived.Deep.QuietTactic
import Derived.BigQuiet
import Derived.Laws.EntriesVeiled
namespace Go.Sl
def OwnsG (B : Nat) (et : TypeId) (sz n : Nat) (xs : List Value) (w : World) (own : Option Nat) (e : Ending) (w' : World) : Prop :=
 ∃ v, e = .returned v ∧ w'.ownsRow B et sz v n xs ∧ w.grownBy w' own ∧ (v.ownBlock = own ∨ ∃ k, v.ownBlock = some k ∧ w.heap.size ≤ k)
theorem grown_of_drew {w W : World} {r : Option Nat} (h : w.drew.grownBy W r) : w.grownBy W r := ⟨h.os, h.tape, h.output, h.size, fun i hi hr => h.block i hi hr⟩
end Go.Sl
namespace Go.Proofs.YtnonfdcbnkdmcaaGreatDoor
open Go.RowKit Go.Mem

set_option maxRecDepth 20000 in
set_option maxHeartbeats 1000000 in
theorem insertE_end (B : Nat) (v : Value) (n : Nat) (xs ys : List Value) (w : World) (hown : w.ownsRow B 75 35 v n xs) (vb : Nat) (hy : ys.length = 35) (h1 : ∀ u ∈ ys, u.oneCell' = true)
 (hvs : ∀ j u, ys[j]? = some u → w.cell? ⟨vb, j, none⟩ = some u) (hB : B ≤ w.heap.size) (hb : (n + 1) * 72 ≤ 140737488355328) :
 Calls Tryz.prog 120 #[v, .int .i64 n, .slice (some ⟨vb, 0, none⟩) 1 1] w (Sl.OwnsG B 75 35 (n + 1) (xs ++ ys) w v.ownBlock) := by
 obtain ⟨i0, hi, hz0, hz1, hz2⟩ := info_parts infoE
 obtain ⟨a, c, hv, R, hbl⟩ := Sl.of_owns hown
 have hle := R.le
 have hmx := R.max
 unfold maxLen at hmx
 have hown' := Lib.hid hown
 have hv' := Lib.hid hv
 have hvs' : Hid (∀ j u, ys[j]? = some u → w.cell? ((⟨vb, 0, none⟩ : Addr).add j) = some u) := fun j u hj => by rw [Addr.add_lit, Nat.zero_add]; exact hvs j u hj
 have hy' := Lib.hid hy
 have hb' := Lib.hid hb
 have hbl' := Lib.hid hbl
 obtain ⟨v', w1, hr0, hown1, hgrow, _, hat⟩ := run_append_own_at (P := Tryz.prog) (w := w) B 30 0 75 i0 _ 35 72 Tryz.underlying30 hi hz0 hz1 hz2 rfl (by decide) v n xs hown ⟨vb, 0, none⟩ 1 1 ys hy (fun j u hj => by rw [Addr.add_lit, Nat.zero_add]; exact hvs j u hj) h1 (by unfold maxLen; omega) hb hB
 have hrun : ∀ ty, (Builtin.append_ #[30, 30] ty #[v, .slice (some ⟨vb, 0, none⟩) 1 1]).run Tryz.prog w = .ok v' w1 := fun ty => by rw [← hr0]; rfl
 clear hown hvs hy hb hbl R hr0
 rw [hv] at hrun hat hgrow ⊢
 clear hv
 go_enter Tryz.func120, Tryz.ntmps120
 go_wp2_with (at_builtin; refine Lib.wpList_append_run _ rfl _ _ _ _ rfl _ _ rfl rfl _ _ (hrun _) ?_)
 all_goals
  go_ret
  exact ⟨v', rfl, hown1, (by cases a <;> exact hgrow), by rcases hat with h | h; exact .inl (by cases a <;> exact h); exact .inr ⟨_, h, Nat.le_refl _⟩⟩

set_option maxRecDepth 20000 in
set_option maxHeartbeats 1000000 in
theorem insertE_grow (B : Nat) (g n i cap : Nat) (xs rest ys : List Value) (w : World) (_hBg : B ≤ g) (hgl : g < w.heap.size) (hg : w.heap[g]? = some (.cells (xs ++ rest).toArray 75 (0, 0))) (hx : xs.length = n * 35) (hin : i < n) (hnc : n ≤ cap) (hcm : cap ≤ maxLen)
 (hfull : cap < n + 1) (h1x : ∀ u ∈ xs, u.oneCell' = true)
 (vb : Nat) (hvb : vb < w.heap.size) (hy : ys.length = 35) (h1 : ∀ u ∈ ys, u.oneCell' = true)
 (hvs : ∀ j u, ys[j]? = some u → w.cell? ⟨vb, j, none⟩ = some u) (hB : B ≤ w.heap.size) (hb : (n + 1) * 72 ≤ 140737488355328) :
 Calls Tryz.prog 120 #[.slice (some ⟨g, 0, none⟩) n cap, .int .i64 i, .slice (some ⟨vb, 0, none⟩) 1 1] w (Sl.OwnsG B 75 35 (n + 1) (xs.take (i * 35) ++ ys ++ xs.drop (i * 35)) w (some g)) := by
 unfold maxLen at hcm
 obtain rfl : cap = n := by omega
 obtain ⟨i0, hi, hz0, hz1, hz2⟩ := info_parts infoE
 have hne : ¬ (cap : Int) = (i : Int) := by omega
 have hne2 : ¬ (i : Int) = (cap : Int) := by omega
 have hne3 : ¬ cap = i := by omega
 have hin' : (i : Int) < (cap : Int) := by omega
 have hcb : (cap : Int) ≤ 4398046511104 := by omega
 have hcell : ∀ j u, xs[j]? = some u → w.cell? ⟨g, j, none⟩ = some u := fun j u hj => by
  rw [cell_of_row w g j _ 75 (0, 0) hg]
  have := (List.getElem?_eq_some_iff.1 hj).1
  simpa [List.getElem?_append_left this] using hj
 have hx3 : i * 35 ≤ xs.length := by omega
 obtain ⟨c2, W1, Z, hr1, hc2, hc2m, hW1, hZ, hb1, hs1⟩ := Sl.append_zeros (P := Tryz.prog) w 30 3 75 i0 _ .i64 35 72 Tryz.underlying30 Tryz.underlying3 hi hz0 hz1 hz2 rfl ⟨g, 0, none⟩ i cap (cap + 1 - i) (cap + 1) (xs.take (i * 35)) (by simp; omega)
  (fun j u hj => by rw [Addr.add_lit, Nat.zero_add]; rw [List.getElem?_take] at hj; split at hj; exact hcell j u hj; cases hj) ((cap : Int) + 1 - (i : Int)) (by omega) (by omega) (by omega) (by omega) (by omega) hb (by omega)
 have hpl : (xs.take (i * 35)).length = i * 35 := by rw [List.length_take]; omega
 unfold maxLen at hc2m
 have hvs1 : ∀ j u, ys[j]? = some u → W1.cell? ((⟨vb, 0, none⟩ : Addr).add j) = some u := fun j u hj => by
  rw [Addr.add_lit, Nat.zero_add, hb1.cell (p := ⟨vb, j, none⟩) hvb]; exact hvs j u hj
 obtain ⟨W2, hr2, hW2, hg2, hs2⟩ := Sl.copy_row (P := Tryz.prog) W1 30 30 75 w.heap.size (i * 35) (cap + 1 - i) ⟨vb, 0, none⟩ 1 1 35 75 (xs.take (i * 35)) (Z.take 35) (Z.drop 35) ys Tryz.underlying30 sizeE (by rw [List.append_assoc, List.take_append_drop]; exact hW1) hpl
  (by rw [List.length_take, hy]; omega) (by simp [Nat.min_def]; omega) (by omega) hvs1 h1
 have hZ1 : ((Z.drop 35).take ((cap - i) * 35)).length = (xs.drop (i * 35)).length := by simp; omega
 have hcell2 : ∀ j u, (xs.drop (i * 35))[j]? = some u → W2.drew.cell? ((⟨g, i * 35, none⟩ : Addr).add j) = some u := fun j u hj => by
  rw [Addr.add_lit]
  rw [List.getElem?_drop] at hj
  refine hg2.cell (w := W1) (a := ⟨g, i * 35 + j, none⟩) ?_ (by simp; omega)
  rw [hb1.cell (p := ⟨g, _, none⟩) hgl]
  exact hcell _ u hj
 obtain ⟨W3, hr3, hW3, hg3, hs3⟩ := Sl.copy_row (P := Tryz.prog) W2.drew 30 30 75 w.heap.size ((i + 1) * 35) (cap - i) ⟨g, i * 35, none⟩ (cap - i) (cap - i) 35 75 (xs.take (i * 35) ++ ys) ((Z.drop 35).take ((cap - i) * 35)) ((Z.drop 35).drop ((cap - i) * 35)) (xs.drop (i * 35)) Tryz.underlying30 sizeE
  (by rw [List.append_assoc _ _ ((Z.drop 35).drop _), List.take_append_drop]; exact hW2) (by simp [hpl, hy]; omega) hZ1 (by simp ) (by simp; omega) hcell2 (fun u hu => h1x u (List.mem_of_mem_drop hu))
 have hfin : Hid (Sl.OwnsG B 75 35 (cap + 1) (xs.take (i * 35) ++ ys ++ xs.drop (i * 35)) w (some g) (.returned (.slice (some ⟨w.heap.size, 0, none⟩) (cap + 1) c2)) W3) := by
  refine ⟨_, rfl, Sl.owns_mk hB hW3 (by simp [hy]; omega) hc2 (by unfold maxLen; omega) ?_, ?_⟩
  · simp [hy]; simp [hpl] at hZ; omega
  · exact ⟨grown_of_below (((hb1.grown hg2 (by omega) (fun k e => by cases e; exact Nat.le_refl _)).drew).grown hg3 (by show w.heap.size ≤ W2.heap.size; omega) (fun k e => by cases e; exact Nat.le_refl _)) _, .inr ⟨_, rfl, Nat.le_refl _⟩⟩
 clear hcell hcell2 hvs hvs1 hW1 hW2 hW3 hg2 hg3 hg h1x h1 hZ hZ1 hb1 hs1 hs2 hs3 hx hx3 hpl hy hi hz0 hz1 hz2
 go_enter Tryz.func120, Tryz.ntmps120
 go_wp2_with (first
  | (at_builtin; refine Lib.wpList_append_run _ rfl _ _ _ _ rfl _ _ rfl rfl _ _ (hr1 _) ?_)
   | (with_reducible refine Sl.wpList_copy_run _ rfl _ _ _ _ rfl _ _ rfl rfl _ _ (hr2 _ _ _) ?_))
 have hn1 : ¬ (c2 = i + 1) := by omega
 have hn2 : ((i : Int) + 1).toNat = i + 1 := by omega
 have hn3 : IntKind.i64.wrap ((i : Int) + 1) = (i : Int) + 1 := IntWalk.i64_in _ (by omega)
 have hn4 : (0 : Int) ≤ (i : Int) + 1 := by omega
 have hn5 : (i : Int) + 1 ≤ (cap : Int) + 1 := by omega
 have hn6 : (i : Int) ≤ (cap : Int) := by omega
 go_region_law (refine Sl.step_copy_run rfl _ _ 30 30 rfl _ _ (by simp [Act.eval, Act.put]) (by simp [Act.eval, Act.put]) _ _ (hr3 _ _ _) ?_)
 go_wp2
 go_ret
 exact hfin.out


set_option maxRecDepth 20000 in
set_option maxHeartbeats 1000000 in
theorem insertE_shift (B : Nat) (g n i cap : Nat) (xs rest ys : List Value) (w : World) (hBg : B ≤ g) (_hgl : g < w.heap.size) (hg : w.heap[g]? = some (.cells (xs ++ rest).toArray 75 (0, 0))) (hx : xs.length = n * 35) (hin : i < n) (_hnc : n ≤ cap) (hcm : cap ≤ maxLen)
 (hroom : n + 1 ≤ cap) (hrest : xs.length + rest.length = cap * 35) (h1x : ∀ u ∈ xs, u.oneCell' = true)
 (vb : Nat) (hvb : w.heap[vb]? = some (.cells ys.toArray 75 (0, 0))) (hvg : vb ≠ g) (hy : ys.length = 35) (h1 : ∀ u ∈ ys, u.oneCell' = true) :
 Calls Tryz.prog 120 #[.slice (some ⟨g, 0, none⟩) n cap, .int .i64 i, .slice (some ⟨vb, 0, none⟩) 1 1] w (Sl.OwnsG B 75 35 (n + 1) (xs.take (i * 35) ++ ys ++ xs.drop (i * 35)) w (some g)) := by
 unfold maxLen at hcm
 have hpl : (xs.take (i * 35)).length = i * 35 := by rw [List.length_take]; omega
 have hLl : (xs ++ rest).length = cap * 35 := by simpa using hrest
 have hcell : ∀ j u, (xs.drop (i * 35))[j]? = some u → w.drew.cell? ((⟨g, i * 35, none⟩ : Addr).add j) = some u := fun j u hj => by
  rw [Addr.add_lit]
  show w.cell? ⟨g, i * 35 + j, none⟩ = _
  rw [cell_of_row w g _ _ 75 (0, 0) hg]
  rw [List.getElem?_drop] at hj
  have := (List.getElem?_eq_some_iff.1 hj).1
  simpa [List.getElem?_append_left this] using hj
 obtain ⟨W1, hr1, hW1, hg1, hs1⟩ := Sl.copy_row (P := Tryz.prog) w.drew 30 30 75 g ((i + 1) * 35) (n - i) ⟨g, i * 35, none⟩ (n + 1 - i) (n - i) 35 75 ((xs ++ rest).take ((i + 1) * 35)) (((xs ++ rest).drop ((i + 1) * 35)).take ((n - i) * 35)) (((xs ++ rest).drop ((i + 1) * 35)).drop ((n - i) * 35)) (xs.drop (i * 35)) Tryz.underlying30 sizeE
  (by rw [List.append_assoc, List.take_append_drop, List.take_append_drop]; exact hg) (by rw [List.length_take]; omega) (by rw [List.length_take, List.length_drop, List.length_drop]; omega) (by simp [Nat.min_def]; omega) (by rw [List.length_drop]; omega) hcell (fun u hu => h1x u (List.mem_of_mem_drop hu))
 have hsplit : (xs ++ rest).take ((i + 1) * 35) = xs.take (i * 35) ++ ((xs ++ rest).drop (i * 35)).take 35 := by
  rw [show (i + 1) * 35 = i * 35 + 35 by omega, List.take_add, List.take_append_of_le_length (by omega)]
 have hvs1 : ∀ j u, ys[j]? = some u → W1.cell? ((⟨vb, 0, none⟩ : Addr).add j) = some u := fun j u hj => by
  rw [Addr.add_lit, Nat.zero_add]
  refine hg1.cell (w := w.drew) (a := ⟨vb, j, none⟩) ?_ (by simpa using hvg)
  show w.cell? _ = _
  rw [cell_of_row w vb _ _ 75 (0, 0) hvb]
  simpa using hj
 obtain ⟨W2, hr2, hW2, hg2, hs2⟩ := Sl.copy_row (P := Tryz.prog) W1 30 30 75 g (i * 35) (n + 1 - i) ⟨vb, 0, none⟩ 1 1 35 75 (xs.take (i * 35)) (((xs ++ rest).drop (i * 35)).take 35) (xs.drop (i * 35) ++ ((xs ++ rest).drop ((i + 1) * 35)).drop ((n - i) * 35)) ys Tryz.underlying30 sizeE
  (by rw [← hsplit, ← List.append_assoc]; exact hW1) hpl (by rw [List.length_take, List.length_drop, hy]; omega) (by simp [Nat.min_def]; omega) (by omega) hvs1 h1
 have hfin : Hid (Sl.OwnsG B 75 35 (n + 1) (xs.take (i * 35) ++ ys ++ xs.drop (i * 35)) w (some g) (.returned (.slice (some ⟨g, 0, none⟩) (n + 1) cap)) W2) := by
  refine ⟨_, rfl, Sl.owns_mk hBg (rest := ((xs ++ rest).drop ((i + 1) * 35)).drop ((n - i) * 35)) (by rw [List.append_assoc _ (xs.drop _)]; exact hW2) (by simp [hy]; omega) hroom (by unfold maxLen; omega) ?_, ?_⟩
  · simp only [List.length_append, List.length_drop, List.length_take, hy]; rw [List.length_append] at hLl; omega
  · exact ⟨Sl.grown_of_drew (hg1.trans hg2), .inl rfl⟩
 have hov : ∀ lb cb, (callFunc 168 #[.slice (some ⟨vb, 0, none⟩) 1 1, .slice (some ⟨g, (i + 1) * 35, none⟩) lb cb]).run Tryz.prog w = .ok (.value (.bool false)) w := fun lb cb => by
  rw [run_callFunc_extern Tryz.func168 (by kernel_rfl) (by kernel_rfl) (by kernel_rfl) (e := Extern.SlicesOverlaps.overlaps #[30, 30] #[4]) (by kernel_rfl),
   Lib.run_overlaps_apart w 30 4 75 Tryz.underlying30 35 (fun w => by kernel_rfl) ⟨vb, 0, none⟩ ⟨g, (i + 1) * 35, none⟩ 1 1 lb cb hvg 75 75 35 (cap * 35) (by simp [World.shape?, hvb, hy]) (by simp only [World.shape?, hg]; simpa using hLl) (by omega) (by simp [World.frozen?, hvb]) (by simp [World.frozen?, hvb])]
  rfl
 have hne : ¬ (cap : Int) = (i : Int) := by omega
 have hne2 : ¬ (i : Int) = (n : Int) := by omega
 have hne3 : ¬ cap = i := by omega
 have hne4 : ¬ (cap : Int) < (n : Int) + 1 := by omega
 have hin' : (i : Int) < (n : Int) := by omega
 have hcb : (cap : Int) ≤ 9223372036854775807 := by omega
 have hn1 : ¬ (cap = i + 1) := by omega
 have hn2 : ((i : Int) + 1).toNat = i + 1 := by omega
 have hn3 : IntKind.i64.wrap ((i : Int) + 1) = (i : Int) + 1 := IntWalk.i64_in _ (by omega)
 have hn4 : (0 : Int) ≤ (i : Int) + 1 := by omega
 have hn5 : (i : Int) + 1 ≤ (n : Int) + 1 := by omega
 have hn6 : (i : Int) ≤ (n : Int) + 1 := by omega
 clear hcell hvs1 hW1 hW2 hg2 hg1 hg h1x h1 hs1 hs2 hx hpl hy hLl hrest hsplit hvb
 go_enter Tryz.func120, Tryz.ntmps120
 go_wp2_with (simp only [hov])
 go_region_law (refine Sl.step_copy_run rfl _ _ 30 30 rfl _ _ (by simp [Act.eval, Act.put]) (by simp [Act.eval, Act.put]) _ _ (hr1 _ _ _) ?_)
 go_wp2_with (with_reducible refine Sl.wpList_copy_run _ rfl _ _ _ _ rfl _ _ rfl rfl _ _ (hr2 _ _ _) ?_)
 go_ret
 exact hfin.out


theorem insertE_any (B : Nat) (v : Value) (n i : Nat) (xs ys : List Value) (w : World) (hown : w.ownsRow B 75 35 v n xs) (hin : i ≤ n) (h1x : ∀ u ∈ xs, u.oneCell' = true)
 (vb : Nat) (hvb : w.heap[vb]? = some (.cells ys.toArray 75 (0, 0))) (hvg : ∀ k, v.ownBlock = some k → vb ≠ k) (hy : ys.length = 35) (h1 : ∀ u ∈ ys, u.oneCell' = true) (hB : B ≤ w.heap.size) (hb : (n + 1) * 72 ≤ 140737488355328) :
 Calls Tryz.prog 120 #[v, .int .i64 i, .slice (some ⟨vb, 0, none⟩) 1 1] w (Sl.OwnsG B 75 35 (n + 1) (xs.take (i * 35) ++ ys ++ xs.drop (i * 35)) w v.ownBlock) := by
 have hvs : ∀ j u, ys[j]? = some u → w.cell? ⟨vb, j, none⟩ = some u := fun j u hj => by
  rw [cell_of_row w vb _ _ 75 (0, 0) hvb]
  simpa using hj
 by_cases hi : i = n
 · subst hi
   have hl := hown.1
   rw [List.take_of_length_le (by omega), List.drop_eq_nil_of_le (by omega), List.append_nil]
   exact insertE_end B v i xs ys w hown vb hy h1 hvs hB hb
 · obtain ⟨g, cap, rest, rfl, hBg, hgl, hg, hnc, hcm, hl⟩ := Sl.owns_row hown (by omega)
   by_cases hroom : n + 1 ≤ cap
   · exact insertE_shift B g n i cap xs rest ys w hBg hgl hg hown.1 (by omega) hnc hcm hroom hl h1x vb hvb (hvg g rfl) hy h1
   · exact insertE_grow B g n i cap xs rest ys w hBg hgl hg hown.1 (by omega) hnc hcm (by omega) h1x vb (Array.getElem?_eq_some_iff.1 hvb).1 hy h1 hvs hB hb

end Go.Proofs.YtnonfdcbnkdmcaaGreatDoor
namespace Go.Proofs.YtnonfdcbnkdmcaaGreatDoor
open Go.RowKit Go.Mem

def zrE : List Value := [.int .i64 0] ++ (bv (List.replicate 32 0) ++ [.slice none 0 0, .bool false])
theorem zrE_len : zrE.length = 35 := by simp [zrE, bv_length]
theorem zrE_one : ∀ u ∈ zrE, u.oneCell' = true := by
 intro u hu
 unfold zrE at hu
 simp only [List.mem_append, List.mem_cons, List.not_mem_nil, or_false] at hu
 rcases hu with rfl | hu | rfl | rfl
 · rfl
 · exact bv_one _ u hu
 · rfl
 · rfl
theorem zeroE (W : World) : (zeroValue 75).run Tryz.prog W = .ok (.agg zrE.toArray) W := by kernel_rfl
end Go.Proofs.YtnonfdcbnkdmcaaGreatDoor
namespace Go.Mem
open Go.RowKit
theorem run_clear_row {P : Program} (w : World) (t e ty : TypeId) (z : Value) (zs : List Value) (ht : P.underlying t = some (.slice e)) (hv : ∀ w, (zeroValue e).run P w = .ok z w) (hz : z.cells = zs.toArray) (h1 : ∀ u ∈ zs, u.oneCell' = true)
 (g o c : Nat) (cur : Array Value) (hg : w.heap[g]? = some (.cells cur e (0, 0))) (hfit : o + zs.length ≤ cur.size) :
 (Builtin.clear_ #[t] ty #[.slice (some ⟨g, o, none⟩) 1 c]).run P w = .ok (.tuple #[]) (w.setRow g (cur.toList.take o ++ zs ++ cur.toList.drop (o + zs.length)).toArray) := by
 have hzc : (Builtin.zeroCells z.cells 1).toList = zs := by
  rw [hz]
  simp [Builtin.zeroCells]
  apply List.ext_getElem
  · simp
  · intro i h1 h2
    have h3 : i % zs.length = i := Nat.mod_eq_of_lt h2
    simp [h3, List.getElem?_eq_getElem h2]
 have hst := run_storeCells_at P g o e zs 0 cur w hg hfit h1
 simp only [Nat.add_zero] at hst
 simp [Builtin.clear_, run_underlying ht, hv, hzc, hst]
theorem step_append_run {P : Program} {ops : Array Oper} {o : Oper} {a : Act} {w : World} {K : Act → World → Prop} {Q : Exit → Act → World → Prop} {E : Prop}
 (hg : o.guard = none) (d x : Operand) (dT sT : TypeId) (hop : o.op = Op.call { callee := Callee.builtin Builtin.append, args := #[d, x], argTypes := #[dT, sT] })
 (v u : Value) (hd : a.eval d = v) (hx : a.eval x = u) (v' : Value) (w' : World) (hr : (Builtin.append_ #[dT, sT] o.type #[v, u]).run P w = .ok v' w') (hK : K (a.put o.dst v') w') :
 if Region.wanted o (yielded ops a.tmps) = true then Oper.wp P o a w K Q else E := by
 have hw : Region.wanted o (yielded ops a.tmps) = true := by simp [Region.wanted, hg]
 rw [if_pos hw]
 unfold Oper.wp
 simp [execOp, hop, resolve, invoke, builtin, hd, hx, hr, Result.andThen]
 exact hK
end Go.Mem
namespace Go.Proofs.YtnonfdcbnkdmcaaGreatDoor
open Go.RowKit Go.Mem
set_option maxRecDepth 20000 in
set_option maxHeartbeats 1000000 in
theorem deleteE_any (B : Nat) (v : Value) (n i : Nat) (xs : List Value) (w : World) (hown : w.ownsRow B 75 35 v n xs) (hin : i < n) (h1x : ∀ u ∈ xs, u.oneCell' = true) (hn : n ≤ 1000000) (_hB : B ≤ w.heap.size) :
 Calls Tryz.prog 118 #[v, .int .i64 i, .int .i64 ((i : Int) + 1)] w (Sl.OwnsG B 75 35 (n - 1) (xs.take (i * 35) ++ xs.drop ((i + 1) * 35)) w v.ownBlock) := by
 obtain ⟨g, cap, rest, rfl, hBg, hgl, hg, hnc, hcm, hl⟩ := Sl.owns_row hown (by omega)
 have hx := hown.1
 unfold maxLen at hcm
 obtain ⟨i0, hi0, hz0, hz1, hz2⟩ := info_parts infoE
 obtain ⟨A, hA, hcell⟩ : ∃ A : Addr, (if cap = i + 1 then some (⟨g, 0, none⟩ : Addr) else some ⟨g, (i + 1) * 35, none⟩) = some A ∧ ∀ j u, (xs.drop ((i + 1) * 35))[j]? = some u → w.drew.cell? (A.add j) = some u := by
  by_cases hc : cap = i + 1
  · refine ⟨_, by rw [if_pos hc], fun j u hj => ?_⟩
    rw [List.drop_eq_nil_of_le (by omega)] at hj
    cases hj
  · refine ⟨_, by rw [if_neg hc], fun j u hj => ?_⟩
    rw [Addr.add_lit]
    show w.cell? ⟨g, (i + 1) * 35 + j, none⟩ = _
    rw [cell_of_row w g _ _ 75 (0, 0) hg]
    rw [List.getElem?_drop] at hj
    have := (List.getElem?_eq_some_iff.1 hj).1
    simpa [List.getElem?_append_left this] using hj
 have hr1 := fun ty => run_append_room (P := Tryz.prog) w.drew 30 ty 75 i0 Tryz.underlying30 hi0 g i cap _ hg A (n - (i + 1)) (cap - (i + 1)) (xs.drop ((i + 1) * 35)) (by rw [hz1, List.length_drop]; omega) hcell (fun u hu => h1x u (List.mem_of_mem_drop hu)) (by omega) (by rw [hz1, List.length_drop]; simp; omega)
 have hidx : i + (n - (i + 1)) = n - 1 := by omega
 have htk : (xs ++ rest).take (i * 35) = xs.take (i * 35) := List.take_append_of_le_length (by omega)
 have hdl : (xs.drop ((i + 1) * 35)).length = (n - (i + 1)) * 35 := by rw [List.length_drop]; omega
 obtain ⟨W1, hr1', hW1, hg1, hs1⟩ : ∃ W1, (∀ ty, (Builtin.append_ #[30, 30] ty #[.slice (some ⟨g, 0, none⟩) i cap, .slice (some A) (n - (i + 1)) (cap - (i + 1))]).run Tryz.prog w.drew = .ok (.slice (some ⟨g, 0, none⟩) (n - 1) cap) W1) ∧
  W1.heap[g]? = some (.cells (xs.take (i * 35) ++ xs.drop ((i + 1) * 35) ++ (xs ++ rest).drop ((n - 1) * 35)).toArray 75 (0, 0)) ∧ w.drew.grownBy W1 (some g) ∧ W1.heap.size = w.heap.size := by
  refine ⟨w.drew.setRow g ((xs ++ rest).take (i * i0.size) ++ xs.drop ((i + 1) * 35) ++ (xs ++ rest).drop (i * i0.size + (xs.drop ((i + 1) * 35)).length)).toArray, fun ty => by rw [hr1 ty, hidx], ?_, ⟨rfl, rfl, rfl, by simp [World.setRow], fun k _ hk => setRow_other w.drew g k _ (fun e => hk (by simp [e]))⟩, by simp [World.setRow]⟩
  rw [setRow_heap w.drew g _ _ 75 _ hg]
  congr 3
  rw [hz1]
  show (xs ++ rest).take (i * 35) ++ _ ++ (xs ++ rest).drop _ = _
  rw [htk, hdl, show i * 35 + (n - (i + 1)) * 35 = (n - 1) * 35 by omega]
 clear hr1
 have hlt1 : (xs.take (i * 35) ++ xs.drop ((i + 1) * 35)).length = (n - 1) * 35 := by rw [List.length_append, hdl, List.length_take]; omega
 obtain ⟨W2, hr2, hW2, hg2, hs2⟩ : ∃ W2, (∀ ty, (Builtin.clear_ #[30] ty #[.slice (some ⟨g, (n - 1) * 35, none⟩) 1 (cap - (n - 1))]).run Tryz.prog W1 = .ok (.tuple #[]) W2) ∧
  W2.heap[g]? = some (.cells ((xs.take (i * 35) ++ xs.drop ((i + 1) * 35)) ++ (zrE ++ rest)).toArray 75 (0, 0)) ∧ W1.grownBy W2 (some g) ∧ W2.heap.size = W1.heap.size := by
  refine ⟨_, fun ty => run_clear_row W1 30 75 ty _ zrE Tryz.underlying30 zeroE rfl zrE_one g ((n - 1) * 35) (cap - (n - 1)) _ hW1 (by rw [zrE_len]; simp only [List.size_toArray, List.length_append, List.length_drop, List.length_take]; omega), ?_, ⟨rfl, rfl, rfl, by simp [World.setRow], fun k _ hk => setRow_other W1 g k _ (fun e => hk (by simp [e]))⟩, by simp [World.setRow]⟩
  rw [setRow_heap W1 g _ _ 75 _ hW1]
  congr 3
  show ((xs.take (i * 35) ++ xs.drop ((i + 1) * 35)) ++ (xs ++ rest).drop ((n - 1) * 35)).take ((n - 1) * 35) ++ zrE ++ ((xs.take (i * 35) ++ xs.drop ((i + 1) * 35)) ++ (xs ++ rest).drop ((n - 1) * 35)).drop ((n - 1) * 35 + zrE.length) = _
  rw [List.take_left' hlt1, ← List.drop_drop, List.drop_left' hlt1, List.drop_drop, zrE_len, show (n - 1) * 35 + 35 = xs.length by omega, List.drop_left, List.append_assoc]
 have hfin : Hid (Sl.OwnsG B 75 35 (n - 1) (xs.take (i * 35) ++ xs.drop ((i + 1) * 35)) w (some g) (.returned (.slice (some ⟨g, 0, none⟩) (n - 1) cap)) W2) := by
  refine ⟨_, rfl, Sl.owns_mk hBg hW2 hlt1 (by omega) (by unfold maxLen; omega) ?_, ?_⟩
  · rw [hlt1, List.length_append, zrE_len]; omega
  · exact ⟨Sl.grown_of_drew (hg1.trans hg2), .inl rfl⟩
 have hin' : (i : Int) < (n : Int) := by omega
 have hcb : (cap : Int) ≤ 9223372036854775807 := by omega
 have hn2 : ((i : Int) + 1).toNat = i + 1 := by omega
 have hn4 : (0 : Int) ≤ (i : Int) + 1 := by omega
 have hn5 : (i : Int) + 1 ≤ (n : Int) := by omega
 have hn6 : ((i : Int) == (i : Int) + 1) = false := beq_eq_false_iff_ne.2 (by omega)
 have hn7 : (n : Int) ≤ (cap : Int) := by omega
 have hn8 : (i : Int) ≤ (i : Int) + 1 := by omega
 have hn9 : (i : Int) + 1 ≤ (cap : Int) := by omega
 have hn10 : (i : Int) ≤ (cap : Int) := by omega
 clear hcell hW1 hW2 hg2 hg1 hg h1x hs1 hs2 hx hl hown hlt1 hdl htk hz0

 have hm1 : n - 1 < cap := by omega
 have hm2 : ((n : Int) - 1) = ((n - 1 : Nat) : Int) := by omega
 have hm3 : ((n - 1 : Nat) : Int) ≤ (n : Int) := by omega
 have hm4 : ¬ cap = n - 1 := by omega
 have hm5 : n - (n - 1) = 1 := by omega
 have hm6 : (((n - 1 : Nat) : Int)).toNat = n - 1 := Int.toNat_natCast _
 by_cases hc : cap = i + 1
 · rw [if_pos hc] at hA
   cases hA
   obtain rfl : n = i + 1 := by omega
   subst hc
   have hz1 : i + 1 - (i + 1) = 0 := by omega
   have hz2 : i + 1 - 1 = i := by omega
   have hz3 : i + 1 - i = 1 := by omega
   simp only [hz1, hz2] at hr1' hfin
   simp only [hz2, hz3] at hr2
   have hq1 : IntKind.i64.wrap ((i : Int) + 1) = (i : Int) + 1 := IntWalk.i64_in _ (by omega)
   go_enter Tryz.func118, Tryz.ntmps118
   go_wp2_with fail
   go_region_law (refine step_append_run rfl _ _ 30 30 rfl _ _ (by simp [Act.eval, Act.put]) (by simp [Act.eval, Act.put]) _ _ (hr1' _) ?_)
   go_wp2_with fail
   go_ret
   exact hfin.out
 · rw [if_neg hc] at hA
   cases hA
   go_enter Tryz.func118, Tryz.ntmps118
   go_wp2_with fail
   go_region_law (refine step_append_run rfl _ _ 30 30 rfl _ _ (by simp [Act.eval, Act.put]) (by simp [Act.eval, Act.put]) _ _ (hr1' _) ?_)
   go_wp2_with fail
   go_ret
   exact hfin.out
end Go.Proofs.YtnonfdcbnkdmcaaGreatDoor
namespace Go.Sto
def forkE (e : Ent) : Ent := ⟨e.kind, Go.Proofs.YtnonfdcbnkdmcaaGreatDoor.entryD e.kind (e.data ++ [0]), e.data ++ [0], false⟩
def lieAt (k : Int) (l : List Ent) (i : Nat) : List Ent :=
 match l[i]? with
 | none => l
 | some e =>
  if k = 2 then l.take i ++ l.drop (i + 1)
  else if k = 3 then l.take i ++ [e] ++ l.drop i
  else if k = 4 then (match l[i + 1]? with | none => l | some f => (l.set i f).set (i + 1) e)
  else l.set i (forkE e)
def lie (k n : Int) (l : List Ent) : List Ent :=
 if k = 1 then l.take (max 0 ((l.length : Int) - n)).toNat
 else if k = 6 then []
 else if 1 ≤ n ∧ n ≤ l.length then lieAt k l (n - 1).toNat else l
end Go.Sto
namespace Go.Proofs.YtnonfdcbnkdmcaaGreatDoor
open Go.RowKit Go.Mem Go.Shelf
open Go.Sto (Ent)

def OwnL (B : Nat) (W : World) (v : Value) (l : List Ent) : Prop := ∃ rows, W.ownsRow B 75 35 v l.length rows.flatten ∧ RowsOf 35 (EV (fun b => B ≤ b ∧ v.ownBlock ≠ some b) W) l rows
theorem ownL_nil (B : Nat) (W : World) : OwnL B W (.slice none 0 0) [] := ⟨[], World.ownsRow_nil W _ _ _, RowsOf.nil⟩
def Nxt (v v' : Value) (W : World) : Prop := v'.ownBlock = v.ownBlock ∨ v'.ownBlock = none ∨ ∃ k, v'.ownBlock = some k ∧ W.heap.size ≤ k
theorem ev_next {B : Nat} {W W' : World} {v v' : Value} (hg : W.grownBy W' v.ownBlock) (hv : Nxt v v' W) {e : Ent} {r : List Value} (h : EV (fun b => B ≤ b ∧ v.ownBlock ≠ some b) W e r) : EV (fun b => B ≤ b ∧ v'.ownBlock ≠ some b) W' e r := by
 obtain ⟨h1, a, n, c, q, hk⟩ := h
 refine ⟨h1, a, n, c, q, ?_⟩
 have k1 := BK.imp (K' := fun b => (B ≤ b ∧ v.ownBlock ≠ some b) ∧ b < W.heap.size) hk (fun b hb h => ⟨h, hb⟩)
 have k3 := k1.keep (w' := W') ⟨hg.size, fun b hb k => hg.block b hb (fun e => k.1.2 e.symm)⟩
 refine k3.imp fun b _ k => ⟨k.1.1, fun e => ?_⟩
 rcases hv with h5 | h5 | ⟨x, h5, h6⟩
 · exact k.1.2 (by rw [← h5]; exact e)
 · rw [h5] at e; cases e
 · rw [h5] at e
   have h7 := k.2
   simp only [Option.some.injEq] at e
   omega
theorem RowsOf.evs {B : Nat} {W W' : World} {v v' : Value} {l : List Ent} {rows : List (List Value)} (hR : RowsOf 35 (EV (fun b => B ≤ b ∧ v.ownBlock ≠ some b) W) l rows) (hg : W.grownBy W' v.ownBlock) (hv : Nxt v v' W) : RowsOf 35 (EV (fun b => B ≤ b ∧ v'.ownBlock ≠ some b) W') l rows := hR.imp fun _ _ h => ev_next hg hv h
def LieP (B : Nat) (v : Value) (l : List Ent) (w : World) (e : Ending) (w' : World) : Prop :=
 ∃ v', e = .returned v' ∧ OwnL B w' v' l ∧ w.grownBy w' v.ownBlock ∧ Nxt v v' w

set_option maxRecDepth 20000 in
set_option maxHeartbeats 1000000 in
theorem lie2_any (B : Nat) (v : Value) (l : List Ent) (i : Nat) (w : World) (ho : OwnL B w v l) (hi : i < l.length) (hl : l.length ≤ 100000) (hB : B ≤ w.heap.size) :
 Calls Tryz.prog 117 #[v, .int .i64 i] w (LieP B v (l.take i ++ l.drop (i + 1)) w) := by
 obtain ⟨rows, hown, hR⟩ := ho
 have hd := Lib.hid (deleteE_any B v l.length i rows.flatten w hown hi (rows_one hR fun _ _ h => h.one) (by omega) hB)
 have hfl : Hid (rows.flatten.take (i * 35) ++ rows.flatten.drop ((i + 1) * 35) = (rows.take i ++ rows.drop (i + 1)).flatten) := by
  show _ = _
  rw [List.flatten_append, flat_take i hR.size, flat_drop (i + 1) hR.size]
 have hR' := Lib.hid hR
 obtain ⟨n, hn⟩ : ∃ n, Hid (l.length - 1 = n) := ⟨_, rfl⟩
 have hnl : Hid ((l.take i ++ l.drop (i + 1)).length = n) := by show _ = _; rw [← hn.out, List.length_append, List.length_take, List.length_drop]; omega
 rw [hfl.out, hn.out] at hd
 have hw1 : IntKind.i64.wrap ((i : Int) + 1) = (i : Int) + 1 := IntWalk.i64_in _ (by omega)
 have hi63 : (i : Int) + 1 ≤ 100000 := by omega
 obtain ⟨X, hX⟩ : ∃ X, X = LieP B v (l.take i ++ l.drop (i + 1)) w := ⟨_, rfl⟩
 have hfin : Hid (∀ v' W, W.ownsRow B 75 35 v' n (rows.take i ++ rows.drop (i + 1)).flatten → w.grownBy W v.ownBlock → Nxt v v' w → X (.returned v') W) := fun v' W h1 h2 h3 => by
  rw [hX]
  refine ⟨v', rfl, ⟨_, by rw [hnl.out]; exact h1, ?_⟩, h2, h3⟩
  exact (RowsOf.append ((RowsOf.evs hR'.out h2 h3).take i) ((RowsOf.evs hR'.out h2 h3).drop (i + 1)))
 rw [← hX]
 clear hX hown hR hfl hnl hn
 go_enter Tryz.func117, Tryz.ntmps117
 go_wp2_with fail
 refine hd.out.mono ?_
 rintro e w2 ⟨v', rfl, h1, h2, h3⟩
 have hf := Lib.hid (hfin.out v' w2 h1 h2 (h3.imp id .inr))
 clear h1 h2 h3
 go_wp2_with fail
 exact hf.out

theorem lentries_any (v : Value) (w : World) : Calls Tryz.prog 116 #[v] w (fun e w' => e = .returned v ∧ w' = w) := by
 go_enter Tryz.func116, Tryz.ntmps116
 go_wp2_with fail
 go_ret
 exact ⟨rfl, rfl⟩

set_option maxRecDepth 20000 in
set_option maxHeartbeats 1000000 in
theorem lie6_any (B : Nat) (v : Value) (l : List Ent) (n : Int) (w : World) (_ho : OwnL B w v l) : Calls Tryz.prog 115 #[v, .int .i64 n] w (LieP B v [] w) := by
 obtain ⟨X, hX⟩ : ∃ X, X = LieP B v [] w := ⟨_, rfl⟩
 have hfin : Hid (X (.returned (.slice none 0 0)) w) := by
  rw [hX]
  exact ⟨_, rfl, ownL_nil _ _, World.grownBy.refl w _, .inr (.inl rfl)⟩
 rw [← hX]
 clear hX
 go_enter Tryz.func115, Tryz.ntmps115
 go_wp2_with fail
 refine (lentries_any _ _).mono ?_
 rintro e w2 ⟨rfl, rfl⟩
 go_wp2_with fail
 exact hfin.out

theorem elemE' : Tryz.prog.underlying 30 = some (.slice (Tryz.prog.elem 30)) := by kernel_rfl
theorem sizeOfE' (W : World) : (sizeOf (Tryz.prog.elem 30)).run Tryz.prog W = .ok 35 W := by kernel_rfl
theorem OwnL.take {B : Nat} {W : World} {v : Value} {l : List Ent} (h : OwnL B W v l) : ∃ a c, v = .slice a l.length c ∧ l.length ≤ c ∧ c ≤ 9223372036854775807 ∧ (a = none → c = 0) ∧ ∀ m, m ≤ l.length → OwnL B W (.slice a m c) (l.take m) ∧ (Value.slice a m c).ownBlock = v.ownBlock := by
 obtain ⟨rows, hown, hR⟩ := h
 by_cases h0 : 0 < l.length
 · obtain ⟨g, cap, rest, rfl, hBg, hgl, hg, hnc, hcm, hl⟩ := Sl.owns_row hown h0
   refine ⟨_, cap, rfl, hnc, by unfold maxLen at hcm; omega, (fun e => by cases e), fun m hm => ⟨⟨rows.take m, ?_, hR.take m⟩, rfl⟩⟩
   have hx := hown.1
   have hml : (l.take m).length = m := by rw [List.length_take]; omega
   rw [hml]
   refine Sl.owns_mk (rest := (rows.drop m).flatten ++ rest) hBg (by rw [← List.append_assoc, ← List.flatten_append, List.take_append_drop]; exact hg) (by rw [flat_len (hR.take m).size, List.length_take, hR.len]; omega) (by omega) hcm ?_
   rw [List.length_append, ← Nat.add_assoc, ← List.length_append, ← List.flatten_append, List.take_append_drop]
   exact hl
 · obtain ⟨a, c, rfl, hr, _⟩ := Sl.of_owns hown
   have h1 : l = [] := List.eq_nil_of_length_eq_zero (by omega)
   subst h1
   refine ⟨a, c, rfl, hr.le, by have := hr.max; unfold maxLen at this; omega, fun e => (hr.nil e).2, fun m hm => ?_⟩
   obtain rfl : m = 0 := by simpa using hm
   exact ⟨⟨rows, hown, hR⟩, rfl⟩

set_option maxRecDepth 20000 in
set_option maxHeartbeats 1000000 in
theorem lie1_any (B : Nat) (v : Value) (l : List Ent) (n : Int) (w : World) (ho : OwnL B w v l) (hl : l.length ≤ 100000) (hn : 0 ≤ n ∧ n ≤ 65536) :
 Calls Tryz.prog 114 #[v, .int .i64 n] w (LieP B v (l.take (max 0 ((l.length : Int) - n)).toNat) w) := by
 obtain ⟨a, c, rfl, h1, h2, h3, htk⟩ := ho.take
 obtain ⟨m, hm⟩ : ∃ m, Hid ((max 0 ((l.length : Int) - n)).toNat = m) := ⟨_, rfl⟩
 have hml : m ≤ l.length := by rw [← hm.out]; omega
 have hmx : max 0 ((l.length : Int) - n) = (m : Int) := by rw [← hm.out]; omega
 rw [hm.out]
 obtain ⟨k, hk⟩ : ∃ k, Hid (l.length = k) := ⟨_, rfl⟩
 rw [hk.out] at hml hmx h1 hl
 obtain ⟨ho2, hb2⟩ := htk m (by rw [hk.out]; exact hml)
 obtain ⟨X, hX⟩ : ∃ X, X = LieP B (.slice a l.length c) (l.take m) w := ⟨_, rfl⟩
 have hfin : Hid (X (.returned (.slice a m c)) w) := by
  rw [hX]
  exact ⟨_, rfl, ho2, World.grownBy.refl w _, .inl hb2⟩
 rw [← hX]
 have hsl : ∀ W, (Instr.sliceAt 30 (.slice a k c) none (some (.int .i64 (m : Int))) none).run Tryz.prog W = .ok (.slice a m c) W := fun W => by
  rw [run_sliceAt_slice _ _ _ _ _ _ elemE', run_slice_h _ _ a k c elemE' .i64 (m : Int) (by omega) (by omega), sizeOfE', Result.andThen_ok]
  unfold sliced
  simp only [Int.toNat_natCast, Nat.sub_zero, Nat.zero_mul]
  cases a with
  | none => simp
  | some ad =>
   have : ad.add 0 = ad := by unfold Addr.add; cases ad; simp
   simp [this]
 have hw1 : IntKind.i64.wrap ((k : Int) - n) = (k : Int) - n := IntWalk.i64_in _ (by omega)
 rw [hk.out]
 clear hX ho ho2 hb2 htk h3
 have hk63 : (k : Int) ≤ 100000 := by omega
 go_enter Tryz.func114, Tryz.ntmps114
 go_wp2_with fail
 exact hfin.out

theorem ent_slice_a (g : Nat → Nat) (k : Int) (gone : Bool) (a : Option Addr) (n c : Nat) (W : World) : (Instr.buildSlice 30 1 #[(0, .agg (entC ⟨k, (List.range 32).map g, [], gone⟩ a n c).toArray)]).run Tryz.prog W = .ok (.slice (some ⟨W.heap.size, 0, none⟩) 1 1) (W.alloc (.cells (entC ⟨k, (List.range 32).map g, [], gone⟩ a n c).toArray 75)) := by kernel_rfl
theorem ent_slice_e {e : Ent} (h : e.dig.length = 32) (a : Option Addr) (n c : Nat) (W : World) : (Instr.buildSlice 30 1 #[(0, .agg (entC e a n c).toArray)]).run Tryz.prog W = .ok (.slice (some ⟨W.heap.size, 0, none⟩) 1 1) (W.alloc (.cells (entC e a n c).toArray 75)) := by
 have := ent_slice_a (fun i => e.dig.getD i 0) e.kind e.gone a n c W
 rw [← as_range h] at this
 exact this
theorem OwnL.at {B : Nat} {W : World} {v : Value} {l : List Ent} {i : Nat} {e : Ent} (h : OwnL B W v l) (hi : l[i]? = some e) :
 ∃ g cap r, v = .slice (some ⟨g, 0, none⟩) l.length cap ∧ B ≤ g ∧ g < W.heap.size ∧ l.length ≤ cap ∧ cap ≤ 9223372036854775807 ∧ EV (fun b => B ≤ b ∧ v.ownBlock ≠ some b) W e r ∧ W.rangeAt g (i * 35) r := by
 obtain ⟨rows, hown, hR⟩ := h
 have hil := (List.getElem?_eq_some_iff.1 hi).1
 obtain ⟨g, cap, rest, rfl, hBg, hgl, hg, hnc, hcm, hl⟩ := Sl.owns_row hown (by omega)
 obtain ⟨r, hr, hev, hrl, hf⟩ := hR.get hi
 refine ⟨g, cap, r, rfl, hBg, hgl, hnc, by unfold maxLen at hcm; omega, hev, fun j u hj => ?_⟩
 rw [cell_of_row W g _ _ 75 (0, 0) hg]
 have h2 := hf j u hj
 have h3 := (List.getElem?_eq_some_iff.1 h2).1
 simpa [List.getElem?_append_left h3] using h2

set_option maxRecDepth 20000 in
set_option maxHeartbeats 2000000 in
theorem lie3_any (B : Nat) (v : Value) (l : List Ent) (i : Nat) (e : Ent) (w : World) (ho : OwnL B w v l) (hi : l[i]? = some e) (hl : l.length ≤ 100000) (hB : B ≤ w.heap.size) :
 Calls Tryz.prog 119 #[v, .int .i64 i] w (LieP B v (l.take i ++ [e] ++ l.drop i) w) := by
 have hil := (List.getElem?_eq_some_iff.1 hi).1
 obtain ⟨g, cap, r, hv, hBg, hgl, hnc, hcm, hev, hrg⟩ := ho.at hi
 obtain ⟨rows, hown, hR⟩ := ho
 obtain ⟨ok, a, n, c, rfl, hbk⟩ := hev
 have hok := Lib.hid ok
 have hR' := Lib.hid hR
 obtain ⟨W1, hW1⟩ : ∃ W1, W1 = w.alloc (.cells (entC e a n c).toArray 75) := ⟨_, rfl⟩
 have hal : Below w.heap.size w W1 := by rw [hW1]; exact (Below.refl _ w).alloc (Nat.le_refl _) _
 have hown1 : W1.ownsRow B 75 35 v l.length rows.flatten := by rw [hW1]; exact World.ownsRow.alloc hown _
 have hvb : W1.heap[w.heap.size]? = some (.cells (entC e a n c).toArray 75 (0, 0)) := by rw [hW1]; exact Array.getElem?_push_size
 have hvg : ∀ k, v.ownBlock = some k → w.heap.size ≠ k := fun k e => by have := (World.ownsRow.lt hown k e).2; omega
 have hin := Lib.hid (insertE_any B v l.length i rows.flatten (entC e a n c) W1 hown1 (by omega) (rows_one hR fun _ _ h => h.one) w.heap.size hvb hvg (entC_length ok.dig a n c) (entC_one e a n c) (by have := hal.size; omega) (by omega))
 have hfl : Hid (rows.flatten.take (i * 35) ++ entC e a n c ++ rows.flatten.drop (i * 35) = (rows.take i ++ [entC e a n c] ++ rows.drop i).flatten) := by
  show _ = _
  rw [List.flatten_append, List.flatten_append, flat_take i hR.size, flat_drop i hR.size, List.flatten_singleton]
 rw [hfl.out] at hin
 obtain ⟨X, hX⟩ : ∃ X, X = LieP B v (l.take i ++ [e] ++ l.drop i) w := ⟨_, rfl⟩
 have hfin : Hid (∀ v' W, W.ownsRow B 75 35 v' (l.length + 1) (rows.take i ++ [entC e a n c] ++ rows.drop i).flatten → W1.grownBy W v.ownBlock → Nxt v v' W1 → X (.returned v') W) := fun v' W h1 h2 h3 => by
  have hg : w.grownBy W v.ownBlock := (grown_of_below hal _).trans h2
  have hx : Nxt v v' w := h3.imp id (Or.imp id fun ⟨k, e, h⟩ => ⟨k, e, Nat.le_trans hal.size h⟩)
  rw [hX]
  refine ⟨v', rfl, ⟨_, by rw [show (l.take i ++ [e] ++ l.drop i).length = l.length + 1 by simp only [List.length_append, List.length_take, List.length_drop, List.length_singleton]; omega]; exact h1, ?_⟩, hg, hx⟩
  exact (((RowsOf.evs hR'.out hg hx).take i).append (RowsOf.one (ev_next hg hx ⟨hok.out, a, n, c, rfl, hbk⟩) (entC_length hok.out.dig a n c))).append ((RowsOf.evs hR'.out hg hx).drop i)
 rw [← hX]
 have hbs := fun W => ent_slice_e hok.out.dig a n c W
 have hri : Hid ((Tryz.prog.info? 75).map (·.size) = some (entC e a n c).length) := by show _ = _; rw [entC_length hok.out.dig a n c]; exact sizeE
 have hrg' := Lib.hid hrg
 obtain ⟨k, hk⟩ : ∃ k, Hid (l.length = k) := ⟨_, rfl⟩
 rw [hk.out] at hil hnc hl hv
 subst hv
 have k0 : (0 : Int) ≤ (i : Int) := by omega
 have k1 : (i : Int) < (k : Int) := by omega
 have hk63 : (k : Int) ≤ 100000 := by omega
 clear hX hown hown1 hR hfl hvb hvg hal hi hrg ok hbk hok hR'
 obtain ⟨rr, hrr⟩ : ∃ rr, Hid (entC e a n c = rr) := ⟨_, rfl⟩
 rw [hrr.out] at hri hrg' hW1
 simp only [hrr.out] at hbs
 replace hW1 := Lib.hid hW1
 go_enter Tryz.func119, Tryz.ntmps119
 go_wp2_with (first
  | (refine wpList_load_g (by rfl) 75 _ (by rfl) g (i * 35) (by rfl) rr _ hrg'.out Tryz.underlying75 (by rfl) hri.out ?_)
   | (refine wpList_buildSlice_run (by rfl) 30 1 _ rfl #[(0, .agg rr.toArray)] (by simp only [List.map_toArray, List.map_cons, List.map_nil]; rfl) (hbs _) ?_))
 refine (lentries_any _ _).mono ?_
 rintro e2 w2 ⟨rfl, rfl⟩
 generalize hWq : w.alloc _ = Wq
 obtain rfl : W1 = Wq := by rw [← hWq, hW1.out]
 clear hWq hW1
 go_wp2_with fail
 refine hin.out.mono ?_
 rintro e2 w2 ⟨v', rfl, h1, h2, h3⟩
 have hf := Lib.hid (hfin.out v' w2 h1 h2 (h3.imp id .inr))
 clear h1 h2 h3
 go_wp2_with fail
 exact hf.out
end Go.Proofs.YtnonfdcbnkdmcaaGreatDoor
namespace Go.Proofs.YtnonfdcbnkdmcaaGreatDoor
open Go.RowKit Go.Mem Go.Shelf
open Go.Sto (Ent forkE)

theorem bcloneO_any (a : Option Addr) (n c : Nat) (l : List Nat) (w : World) (H : BW w a n c l) (hn : n ≤ 140737488355328) :
 Calls Tryz.prog 165 #[.slice a n c] w fun e w' => ∃ v', e = .returned v' ∧ w'.ownsRow w.heap.size 5 1 v' n (bv l) ∧ Below w.heap.size w w' := by
 cases a with
 | none =>
  obtain ⟨rfl, rfl⟩ := H.none.nil rfl
  have hl : l = [] := List.eq_nil_of_length_eq_zero H.len
  subst hl
  refine (Tryz.bytes_Clone_nil 0 0 w).mono ?_
  rintro e w' ⟨rfl, rfl⟩
  exact ⟨_, rfl, World.ownsRow_nil _ _ _ _, Below.refl _ _⟩
 | some ad =>
  have hlen := H.len
  refine (Tryz.bytes_Clone_at ad n c (l.map fun (x : Nat) => (x : Int)) w (by simpa using hlen) hn (fun i hi => ?_)).mono ?_
  · have hil : i < l.length := by omega
    rw [H.news i _ (bv_get (List.getElem?_eq_getElem hil))]
    simp [List.getElem?_eq_getElem hil]
  · rintro e w' ⟨v, rfl, hown, _, hb'⟩
    rw [show (l.map fun (x : Nat) => (x : Int)).map (Value.int .u8) = bv l by simp [bv]] at hown
    exact ⟨v, rfl, hown, hb'⟩
theorem ent_build_og (g : Nat → Nat) (k : Int) (a : Option Addr) (n c : Nat) (W : World) : (Instr.build 75 #[(0, .int .i64 k), (2, .slice a n c), (1, .agg (bv ((List.range 32).map g)).toArray)]).run Tryz.prog W = .ok (.agg (entC ⟨k, (List.range 32).map g, [], false⟩ a n c).toArray) W := by kernel_rfl
theorem ent_build_o {e : Ent} (h : e.dig.length = 32) (h0 : e.gone = false) (a : Option Addr) (n c : Nat) (W : World) : (Instr.build 75 #[(0, .int .i64 e.kind), (2, .slice a n c), (1, .agg (bv e.dig).toArray)]).run Tryz.prog W = .ok (.agg (entC e a n c).toArray) W := by
 have := ent_build_og (fun i => e.dig.getD i 0) e.kind a n c W
 rw [← as_range h] at this
 rw [this]
 unfold entC
 rw [h0]
def ForkP (e : Ent) (w : World) (r : Ending) (w' : World) : Prop :=
 ∃ a n c, r = .returned (.agg (entC (forkE e) a n c).toArray) ∧ OkE (forkE e) ∧ BK (fun b => w.heap.size ≤ b) w' a n c (forkE e).data ∧ Below w.heap.size w w'
def zE : List Value := entC ⟨0, List.replicate 32 0, [], false⟩ none 0 0
theorem zE_len : zE.length = 35 := entC_length (by simp) _ _ _

set_option maxRecDepth 20000 in
set_option maxHeartbeats 4000000 in
theorem forked_any (e : Ent) (a : Option Addr) (n c : Nat) (w : World) (HT : Tabs w) (ok : OkE e) (hd : e.data.length ≤ 999999) (H : BW w a n c e.data) :
 Calls Tryz.prog 123 #[.agg (entC e a n c).toArray] w (ForkP e w) := by
 have HT' := Lib.hid HT; have H' := Lib.hid H; have ok' := Lib.hid ok
 have hnd : n ≤ 999999 := by have := H.len; omega
 have hln := Lib.hid H.len
 have hlt := Lib.hid H.lt
 clear HT H ok
 have okF : Hid (OkE (forkE e)) := ⟨Sha.tagged_length _ _, Sha.tagged_lt _ _, ok'.out.lo, ok'.out.hi, by show (e.data ++ [0]).length ≤ _; rw [List.length_append]; simp; omega⟩
 obtain ⟨X, hX⟩ : ∃ X, X = ForkP e w := ⟨_, rfl⟩
 rw [← hX]
 have hX' := Lib.hid hX
 clear hX
 obtain ⟨tb, htb⟩ : ∃ tb, Hid (w.heap.size = tb) := ⟨_, rfl⟩
 obtain ⟨W1, hW1⟩ : ∃ W1, W1 = (w.alloc (.cells (entC e a n c).toArray 75)).alloc (.cells (zE : List Value).toArray 75) := ⟨_, rfl⟩
 have e1 : (w.alloc (.cells (entC e a n c).toArray 75)).heap.size = tb + 1 := by rw [World.size_alloc, htb.out]
 have hB1 : Hid (Blk W1 tb 75 (entC e a n c)) := by rw [hW1, ← htb.out]; exact (Blk.new w _ _).alloc _
 have hB2 : Hid (Blk W1 (tb + 1) 75 zE) := by rw [hW1, ← e1]; exact Blk.new _ _ _
 have hbw : Hid (Below w.heap.size w W1) := by rw [hW1]; exact ((Below.refl _ w).alloc (Nat.le_refl _) _).alloc (by simp) _
 clear e1
 have x0 := entC_kind e a n c
 have x33 := entC_data ok'.out.dig a n c
 have n63 : (n : Int) ≤ 999999 := by omega
 go_enter Tryz.func123, Tryz.ntmps123
 go_upto_region 1 with fail
 rw [htb.out]
 generalize hWq : (w.alloc _).alloc _ = Wq
 obtain rfl : W1 = Wq := by rw [← hWq, hW1]; rfl
 clear hWq hW1
 have c33 := hB1.out.at_ x33
 go_wp2_with fail
 refine (bcloneO_any a n c e.data _ (H'.out.below hbw.out) (by omega)).mono ?_
 rintro e2 w2 ⟨v1, rfl, hown, hst⟩
 obtain ⟨W3, hW3⟩ : ∃ W3, Hid (W3 = w2.alloc (.cells #[.int .u8 0] 5)) := ⟨_, rfl⟩
 have hal : Below w2.heap.size w2 W3 := by rw [hW3.out]; exact (Below.refl _ w2).alloc (Nat.le_refl _) _
 have hz : BW W3 (some ⟨w2.heap.size, 0, none⟩) 1 1 [0] := .inl (by
  have hb := Blk.new w2 5 [.int .u8 0]
  have hb' : Blk W3 w2.heap.size 5 [.int .u8 0] := by rw [hW3.out]; exact hb
  exact ⟨rfl, Nat.le_refl _, by omega, (fun e => by cases e), fun ad e => by
   cases e
   refine ⟨_, 0, rfl, hb'.lt, fun i x hx => ?_⟩
   rw [Nat.zero_add]
   match i, hx with
    | 0, hx => cases hx; exact hb'.at_ rfl, fun x hx => by rw [List.mem_singleton] at hx; omega⟩)
 have hown3 : W3.ownsRow W1.heap.size 5 1 v1 n (bv e.data) := by rw [hW3.out]; exact World.ownsRow.alloc hown _
 obtain ⟨v3, W4, hrun, hown4, hg4⟩ := append_bs hown3 hz (by omega) (Nat.le_trans hst.size hal.size)
 have hb4 : Below W1.heap.size W1 W4 := (hst.trans (hal.mono hst.size)).grown hg4 (Nat.le_trans hst.size hal.size) (fun k e => (World.ownsRow.lt hown3 k e).1)
 have hB3 := Lib.hid (hB1.out.below hb4 hB1.out.lt)
 have hB4 := Lib.hid (hB2.out.below hb4 hB2.out.lt)
 have hbw4 := Lib.hid (hbw.out.trans (hb4.mono hbw.out.size))
 obtain ⟨a3, c3, rfl, hBS⟩ := BS.own hown4 (fun x hx => by
  rcases List.mem_append.1 hx with hx | hx
  · exact hlt.out x hx
  · rw [List.mem_singleton] at hx; omega)
 have hfr : Hid (∀ ad, a3 = some ad → w.heap.size ≤ ad.block) := fun ad ee => by
  obtain ⟨_, _, hv, _, h3⟩ := Sl.of_owns hown4
  cases hv
  exact Nat.le_trans hbw.out.size (h3 ad ee).1
 have hfn : Hid (∀ ad, a3 = some ad → ad.block ≠ tb + 1) := fun ad ee => by
  obtain ⟨_, _, hv, _, h3⟩ := Sl.of_owns hown4
  cases hv
  have h4 := (h3 ad ee).1
  have h5 := hB2.out.lt
  omega
 have hBS' := Lib.hid hBS
 rw [hW3.out] at hrun
 clear hW3 hal hz hown3 hown4 hg4 hb4 hst hown c33 hB1 hB2 hbw hBS
 go_upto_region 2 with (at_builtin; refine Lib.wpList_append_run _ rfl _ _ _ _ rfl _ _ rfl rfl _ _ (hrun _) ?_)
 clear hrun
 have c0 := hB3.out.at_ x0
 have hlt0 := hB3.out.lt
 have hel := Lib.hid ok'.out.lo; have heh := Lib.hid ok'.out.hi
 have hbd := fun W => ent_build_o (e := forkE e) okF.out.dig rfl a3 (n + 1) c3 W
 refine wp_region_held_drew (S := fun wz => Below w.heap.size w wz ∧ Blk wz tb 75 (entC e a n c) ∧ (∃ r : List Value, r.length = 35 ∧ Blk wz (tb + 1) 75 r) ∧ BS wz a3 (n + 1) c3 (e.data ++ [0])) (by kernel_rfl) (⟨hbw4.out.drew, hB3.out.below (Below.refl _ W4).drew hB3.out.lt, ⟨zE, zE_len, hB4.out.below (Below.refl _ W4).drew hB4.out.lt⟩, hBS'.out.below (Below.refl _ W4).drew⟩) (fun hHeld => ?_)
 refine tQ 0 rfl hHeld ?_
 refine tX 1 rfl (fun wz hSw => hSw.2.1.at_ x0) hHeld ?_
 refine tQ 2 rfl hHeld ?_
 refine tQ 3 rfl hHeld ?_
 refine tX 4 rfl (fun wz hSw => hSw.2.1.at_ x0) hHeld ?_
 refine tQ 5 rfl hHeld ?_
 refine tO 6 rfl (fun K hK => ?_)
 go_simp
 go_at_call 71
 refine (digest_any e.kind ⟨hel.out, heh.out⟩ a3 (n + 1) c3 (e.data ++ [0]) _ (HT'.out.below hHeld.1) (.inl hHeld.2.2.2) (by omega)).mono ?_
 rintro e2 w5 ⟨rfl, hbq⟩
 refine hK.out _ _ ⟨hHeld.1.trans (hbq.mono hHeld.1.size), hHeld.2.1.below hbq hHeld.2.1.lt, (by obtain ⟨r, h1, h2⟩ := hHeld.2.2.1; exact ⟨r, h1, h2.below hbq h2.lt⟩), hHeld.2.2.2.below hbq⟩ (fun hHeld => ?_)
 clear hbq
 clear hK K
 try simp only [Act.put, sA, s0, s1]
 refine tU 7 rfl #[(0, .int .i64 e.kind), (2, .slice a3 (n + 1) c3), (1, .agg (bv (entryD e.kind (e.data ++ [0]))).toArray)] hbd hHeld ?_
 obtain ⟨r6, hr6, hB6⟩ := hHeld.2.2.1
 obtain ⟨W6, hQ⟩ := put_row (ty := 75) hB6 (x := entC (forkE e) a3 (n + 1) c3) (by rw [entC_length okF.out.dig, hr6]) (by rw [entC_length okF.out.dig]; exact sizeE) (entC_one _ _ _ _)
 have hb6 := below_grown hHeld.1 hQ.grown hHeld.1.size (by have := htb.out; omega)
 have hS6 : BS W6 a3 (n + 1) c3 (e.data ++ [0]) := hHeld.2.2.2.keep hQ.grown.size (fun b off ee i => by
  have h1 := hfn.out _ ee
  obtain ⟨b', off', e3, hlt3, _⟩ := hHeld.2.2.2.cells _ ee
  injection e3 with e4 e5
  subst e4
  exact World.cell?_of_block (hQ.grown.block b hlt3 (fun e6 => h1 (by cases e6; rfl))))
 refine tO 8 rfl (fun K hK => ?_)
 refine wp_store_mid 75 _ _ rfl (tb + 1) 0 (entC (forkE e) a3 (n + 1) c3).toArray (by rfl) (by rfl) hQ.there hQ.info (by simpa using hQ.one) ?_
 generalize hWq : World.setCells _ _ _ _ = Wa
 obtain rfl : W6 = Wa := by rw [← hWq]; exact hQ.eq
 clear hWq
 refine hK.out _ _ ⟨hb6, hHeld.2.1.grown hQ.grown (fun e => by injection e with e; omega), ⟨_, entC_length okF.out.dig _ _ _, hQ.blk⟩, hS6⟩ (fun _ => ?_)
 clear hK K
 try simp only [Act.put]
 refine wpAnyH_done (by kernel_rfl) ?_ _
 have hfin : Hid (X (.returned (.agg (entC (forkE e) a3 (n + 1) c3).toArray)) W6) := by
  rw [hX'.out]
  exact ⟨a3, n + 1, c3, rfl, okF.out, .inl ⟨hS6, hfr.out⟩, hb6⟩
 have hblk := Lib.hid hQ.blk
 have hsz : Hid ((Tryz.prog.info? 75).map (·.size) = some (entC (forkE e) a3 (n + 1) c3).length) := by show _ = _; rw [entC_length okF.out.dig]; exact sizeE
 clear hQ hS6 hB6
 go_wp2_with fail
 exact ret_cell (fn := Tryz.f123) (p := 2) rfl hblk.out Tryz.underlying75 rfl hsz.out rfl rfl hfin.out
end Go.Proofs.YtnonfdcbnkdmcaaGreatDoor
namespace Go.Proofs.YtnonfdcbnkdmcaaGreatDoor
open Go.RowKit Go.Mem Go.Shelf
open Go.Sto (Ent forkE)

theorem OwnL.put {B : Nat} {W : World} {v : Value} {l : List Ent} {i : Nat} {e e' : Ent} {r' : List Value} (h : OwnL B W v l) (hi : l[i]? = some e) (hr : EV (fun b => B ≤ b ∧ v.ownBlock ≠ some b) W e' r') :
 ∃ g cap, v = .slice (some ⟨g, 0, none⟩) l.length cap ∧ W.there g (i * 35) 35 ∧ OwnL B (W.setCells g (i * 35) r') v (l.set i e') ∧ W.grownBy (W.setCells g (i * 35) r') (some g) := by
 obtain ⟨rows, hown, hR⟩ := h
 have hil := (List.getElem?_eq_some_iff.1 hi).1
 obtain ⟨g, cap, rest, rfl, hBg, hgl, hg, hnc, hcm, hl⟩ := Sl.owns_row hown (by omega)
 have hx := hown.1
 have hrl := hR.len
 have hr35 := hr.len
 have hpre : (rows.take i).flatten.length = i * 35 := by rw [flat_len (hR.take i).size, List.length_take]; omega
 obtain ⟨r, hri, _, hrl2, _⟩ := hR.get hi
 have hsp : rows.flatten = (rows.take i).flatten ++ r ++ (rows.drop (i + 1)).flatten := by
  have h1 : rows = rows.take i ++ (r :: rows.drop (i + 1)) := by
   have h2 := List.drop_eq_getElem_cons (l := rows) (i := i) (by omega)
   rw [(List.getElem?_eq_some_iff.1 hri).2] at h2
   rw [← h2, List.take_append_drop]
  have h3 := congrArg List.flatten h1
  rw [List.flatten_append, List.flatten_cons, ← List.append_assoc] at h3
  exact h3
 have hB : Blk W g 75 (((rows.take i).flatten ++ r) ++ ((rows.drop (i + 1)).flatten ++ rest)) := by
  rw [← List.append_assoc, ← hsp]
  exact hg
 have hS := Blk.setCells r' (w := W) (g := g) (t := 75) (pre := (rows.take i).flatten) (mid := r) (post := (rows.drop (i + 1)).flatten ++ rest) hB (hrl2.trans hr35.symm)
 have hgr : W.grownBy (W.setCells g (i * 35) r') (some g) := grown_setCells r' (World.grownBy.refl W _)
 rw [hpre] at hS
 have hset : (rows.set i r').flatten = (rows.take i).flatten ++ r' ++ (rows.drop (i + 1)).flatten := by
  rw [List.set_eq_take_append_cons_drop, if_pos (by omega), List.flatten_append, List.flatten_cons, List.append_assoc]
 have hset2 : (rows.set i r').flatten.length = l.length * 35 := by
  have h5 := congrArg List.length hsp
  rw [hset]
  simp only [List.length_append] at h5 ⊢
  omega
 refine ⟨g, cap, rfl, fun j hj => ?_, ⟨rows.set i r', ?_, (RowsOf.evs hR hgr (.inl rfl)).set i (ev_next hgr (.inl rfl) hr) hr35⟩, hgr⟩
 · have h4 := hB.there (i * 35 + j) (by
    rw [List.length_append, List.length_append, hpre, hrl2]; omega)
   simpa using h4
 · rw [List.length_set]
   refine Sl.owns_mk hBg (rest := rest) ?_ hset2 hnc hcm (by rw [hset2, ← hx]; exact hl)
   rw [hset, List.append_assoc _ _ rest]
   exact hS

theorem sizeEn {e : Ent} (h : e.dig.length = 32) (a : Option Addr) (n c : Nat) : (Tryz.prog.info? 75).map (·.size) = some (entC e a n c).length := by rw [entC_length h]; exact sizeE

set_option maxRecDepth 20000 in
set_option maxHeartbeats 2000000 in
theorem lie5_any (B : Nat) (v : Value) (l : List Ent) (i : Nat) (e : Ent) (w : World) (HT : Tabs w) (ho : OwnL B w v l) (hi : l[i]? = some e) (hl : l.length ≤ 100000) (hd : e.data.length ≤ 999999) :
 Calls Tryz.prog 122 #[v, .int .i64 i] w (LieP B v (l.set i (forkE e)) w) := by
 have hil := (List.getElem?_eq_some_iff.1 hi).1
 obtain ⟨g, cap, r, hv, hBg, hgl, hnc, hcm, hev, hrg⟩ := ho.at hi
 obtain ⟨ok, a, n, c, rfl, hbk⟩ := hev
 have hf := Lib.hid (forked_any e a n c w HT ok hd hbk.bs)
 have ho' := Lib.hid ho
 obtain ⟨X, hX⟩ : ∃ X, X = LieP B v (l.set i (forkE e)) w := ⟨_, rfl⟩
 have hri : Hid ((Tryz.prog.info? 75).map (·.size) = some (entC e a n c).length) := sizeEn ok.dig a n c
 have hrg' := Lib.hid hrg
 have hX' := Lib.hid hX
 rw [← hX]
 have hv' := Lib.hid hv
 obtain ⟨k, hk⟩ : ∃ k, Hid (l.length = k) := ⟨_, rfl⟩
 rw [hk.out] at hil hnc hl hv
 subst hv
 have k0 : (0 : Int) ≤ (i : Int) := by omega
 have k1 : (i : Int) < (k : Int) := by omega
 have hk63 : (k : Int) ≤ 100000 := by omega
 have hi' := Lib.hid hi
 clear hX hrg ok hbk ho hi
 obtain ⟨rr, hrr⟩ : ∃ rr, Hid (entC e a n c = rr) := ⟨_, rfl⟩
 rw [hrr.out] at hri hrg' hf
 go_enter Tryz.func122, Tryz.ntmps122
 go_wp2_with (first
  | (refine wpList_load_g (by rfl) 75 _ (by rfl) g (i * 35) (by rfl) rr _ hrg'.out Tryz.underlying75 (by rfl) hri.out ?_))
 refine hf.out.mono ?_
 rintro e2 w2 ⟨a2, n2, c2, rfl, ok2, hbk2, hst⟩
 have ho2 : OwnL B w2 (.slice (some ⟨g, 0, none⟩) k cap) l := by
  obtain ⟨rows, h1, h2⟩ := ho'.out
  refine ⟨rows, h1.kept (grown_of_below hst none) (by simp [Value.ownBlock]), RowsOf.evs h2 (grown_of_below hst _) (.inl rfl)⟩
 obtain ⟨g', cap', hvv, hth, hown3, hgr3⟩ := ho2.put hi'.out (e' := forkE e) (r' := entC (forkE e) a2 n2 c2) ⟨ok2, a2, n2, c2, rfl, hbk2.imp (fun b _ h => ⟨by omega, by
  simp only [Value.ownBlock]
  intro ee
  injection ee with ee
  omega⟩)⟩
 obtain rfl : g = g' := by injection hvv with h1; injection h1 with h2; injection h2
 have hsz : Hid ((Tryz.prog.info? 75).map (·.size) = some (entC (forkE e) a2 n2 c2).length) := sizeEn ok2.dig a2 n2 c2
 have h1c : Hid (∀ u ∈ entC (forkE e) a2 n2 c2, u.oneCell' = true) := entC_one _ _ _ _
 have hln : Hid ((entC (forkE e) a2 n2 c2).length = 35) := entC_length ok2.dig _ _ _
 have hfin : Hid (X (.returned (.slice (some ⟨g, 0, none⟩) k cap)) (w2.setCells g (i * 35) (entC (forkE e) a2 n2 c2))) := by
  rw [hX'.out]
  exact ⟨_, rfl, hown3, (grown_of_below hst _).trans hgr3, .inl rfl⟩
 have hth' := Lib.hid hth
 clear hown3 hgr3 ho2 hst hbk2 ok2 hth
 generalize entC (forkE e) a2 n2 c2 = r2 at *
 go_wp2_with (first
  | (refine wpList_store_mid (by rfl) 75 (.tmp 12) (.tmp 11) (by rfl) g (i * 35) r2.toArray (by rfl) (by rfl) (by rw [List.size_toArray, hln.out]; exact hth'.out) (by rw [List.size_toArray]; exact hsz.out) (by simpa using h1c.out) ?_))
 exact hfin.out
end Go.Proofs.YtnonfdcbnkdmcaaGreatDoor
namespace Go.Proofs.YtnonfdcbnkdmcaaGreatDoor
open Go.RowKit Go.Mem Go.Shelf
open Go.Sto (Ent forkE)

theorem OwnL.kept {B : Nat} {W W' : World} {v : Value} {l : List Ent} (h : OwnL B W v l) (hb : Below W.heap.size W W') : OwnL B W' v l := by
 obtain ⟨rows, h1, h2⟩ := h
 refine ⟨rows, h1.kept (grown_of_below hb none) ?_, RowsOf.evs h2 (grown_of_below hb _) (.inl rfl)⟩
 rcases h1.2 with ⟨e, _⟩ | ⟨g, cap, cur, e, _⟩ <;> rw [e] <;> simp [Value.ownBlock]

set_option maxRecDepth 20000 in
set_option maxHeartbeats 2000000 in
theorem lie4n_any (B : Nat) (v : Value) (l : List Ent) (i : Nat) (w : World) (ho : OwnL B w v l) (hi : i + 1 = l.length) (hl : l.length ≤ 100000) :
 Calls Tryz.prog 121 #[v, .int .i64 i] w (LieP B v l w) := by
 obtain ⟨a, c, rfl, h1, h2, h3, htk⟩ := ho.take
 obtain ⟨X, hX⟩ : ∃ X, X = LieP B (.slice a l.length c) l w := ⟨_, rfl⟩
 have hfin : Hid (X (.returned (.slice a l.length c)) w) := by
  rw [hX]
  exact ⟨_, rfl, ho, World.grownBy.refl w _, .inl rfl⟩
 rw [← hX]
 obtain ⟨k, hk⟩ : ∃ k, Hid (l.length = k) := ⟨_, rfl⟩
 rw [hk.out] at hi hl hfin ⊢
 have hw1 : IntKind.i64.wrap ((i : Int) + 1) = (i : Int) + 1 := IntWalk.i64_in _ (by omega)
 have g1 : decide ((i : Int) + 1 < (k : Int)) = false := decide_eq_false (by omega)
 have hk63 : (k : Int) ≤ 100000 := by omega
 clear hX htk h1 h2 h3 ho hi
 go_enter Tryz.func121, Tryz.ntmps121
 go_wp2_with fail
 exact hfin.out

set_option maxRecDepth 20000 in
set_option maxHeartbeats 4000000 in
theorem lie4_any (B : Nat) (v : Value) (l : List Ent) (i : Nat) (e f : Ent) (w : World) (ho : OwnL B w v l) (hi : l[i]? = some e) (hj : l[i + 1]? = some f) (hl : l.length ≤ 100000) :
 Calls Tryz.prog 121 #[v, .int .i64 i] w (LieP B v ((l.set i f).set (i + 1) e) w) := by
 have hil := (List.getElem?_eq_some_iff.1 hj).1
 obtain ⟨g, cap, r, hv, hBg, hgl, hnc, hcm, hev, hrg⟩ := ho.at hi
 obtain ⟨g2, cap2, r2, hv2, _, _, _, _, hev2, hrg2⟩ := ho.at hj
 obtain rfl : g = g2 := by rw [hv] at hv2; injection hv2 with h1; injection h1 with h2; injection h2
 have hdw : Below w.heap.size w w.drew := (Below.refl _ w).drew
 have ho1 := ho.kept hdw
 obtain ⟨g3, cap3, hv3, hth1, ho2, hg2⟩ := ho1.put hi (e' := f) (r' := r2) (ev_next (grown_of_below hdw _) (.inl rfl) hev2)
 obtain rfl : g = g3 := by rw [hv] at hv3; injection hv3 with h1; injection h1 with h2; injection h2
 have hvo : v.ownBlock = some g := by rw [hv]; rfl
 have hg2' : w.drew.grownBy (w.drew.setCells g (i * 35) r2) v.ownBlock := by rw [hvo]; exact hg2
 have hj2 : (l.set i f)[i + 1]? = some f := by rw [List.getElem?_set_ne (by omega)]; exact hj
 obtain ⟨g4, cap4, hv4, hth2, ho3, hg3⟩ := ho2.put hj2 (e' := e) (r' := r) (ev_next hg2' (.inl rfl) (ev_next (grown_of_below hdw _) (.inl rfl) hev))
 obtain rfl : g = g4 := by rw [hv] at hv4; injection hv4 with h1; injection h1 with h2; injection h2
 have hr1 := hev.len
 have hr2 := hev2.len
 have h1a : Hid (∀ u ∈ r, u.oneCell' = true) := hev.one
 have h1b : Hid (∀ u ∈ r2, u.oneCell' = true) := hev2.one
 have hs1 : Hid ((Tryz.prog.info? 75).map (·.size) = some r.length) := by show _ = _; rw [hr1]; exact sizeE
 have hs2 : Hid ((Tryz.prog.info? 75).map (·.size) = some r2.length) := by show _ = _; rw [hr2]; exact sizeE
 have ra : Hid (w.drew.rangeAt g (i * 35) r) := fun j u hu => hrg j u hu
 have rb : Hid (w.drew.rangeAt g ((i + 1) * 35) r2) := fun j u hu => hrg2 j u hu
 have t1 : Hid (w.drew.there g (i * 35) r2.toArray.size) := by show World.there _ _ _ _; rw [List.size_toArray, hr2]; exact hth1
 have t2 : Hid ((w.drew.setCells g (i * 35) r2).there g ((i + 1) * 35) r.toArray.size) := by show World.there _ _ _ _; rw [List.size_toArray, hr1]; exact hth2
 obtain ⟨X, hX⟩ : ∃ X, X = LieP B v ((l.set i f).set (i + 1) e) w := ⟨_, rfl⟩
 obtain ⟨k, hk⟩ : ∃ k, Hid (l.length = k) := ⟨_, rfl⟩
 rw [hk.out] at hv hl hil hnc
 have hfin : Hid (X (.returned (.slice (some ⟨g, 0, none⟩) k cap)) ((w.drew.setCells g (i * 35) r2).setCells g ((i + 1) * 35) r)) := by
  rw [hX, ← hv]
  have hg3' : (w.drew.setCells g (i * 35) r2).grownBy ((w.drew.setCells g (i * 35) r2).setCells g ((i + 1) * 35) r) v.ownBlock := by rw [hvo]; exact hg3
  exact ⟨_, rfl, ho3, (grown_of_below hdw _).trans (hg2'.trans hg3'), .inl rfl⟩
 rw [← hX]
 subst hv
 have hw1 : IntKind.i64.wrap ((i : Int) + 1) = (i : Int) + 1 := IntWalk.i64_in _ (by omega)
 have g1 : decide ((i : Int) + 1 < (k : Int)) = true := decide_eq_true (by omega)
 have hk63 : (k : Int) ≤ 100000 := by omega
 have k0 : (0 : Int) ≤ (i : Int) := by omega
 have k1 : (i : Int) < (k : Int) := by omega
 have k2 : (i : Int) + 1 < (k : Int) := by omega
 have k3 : ((i : Int) + 1).toNat = i + 1 := by omega
 have k4 : (0 : Int) ≤ (i : Int) + 1 := by omega
 clear hX ho ho1 ho2 ho3 hg2 hg2' hg3 hev hev2 hrg hrg2 hth1 hth2 hv2 hv3 hv4 hvo hdw hi hj hj2 hr1 hr2
 go_enter Tryz.func121, Tryz.ntmps121
 go_upto_region 2 with fail
 refine wp_region_held_drew (S := fun wz => True) (by kernel_rfl) (trivial) (fun hHeld => ?_)
 refine tQ 0 rfl hHeld ?_
 refine tQ 1 rfl hHeld ?_
 refine tQ 2 rfl hHeld ?_
 refine tQ 3 rfl hHeld ?_
 refine tQ 4 rfl hHeld ?_
 refine tQ 5 rfl hHeld ?_
 refine tQ 6 rfl hHeld ?_
 refine tQ 7 rfl hHeld ?_
 refine tQ 8 rfl hHeld ?_
 refine tQ 10 rfl hHeld ?_
 refine tQ 11 rfl hHeld ?_
 refine tQ 12 rfl hHeld ?_
 refine Go.rd (rs := [9, 13]) ?_
 refine tR rfl (fun K hK => ?_) (tR rfl (fun K hK => ?_) Go.rn)
 case refine_1 =>
  refine wp_load_mid 75 _ rfl g ((i + 1) * 35) rfl r2 _ rb.out Tryz.underlying75 rfl hs2.out (hK.out _ _ trivial (fun hHeld => ?_))
  clear hK K
  try simp only [Act.put, sA, s0, s1]
  refine tO 13 rfl (fun K hK => ?_)
  refine wp_load_mid 75 _ rfl g (i * 35) rfl r _ ra.out Tryz.underlying75 rfl hs1.out (hK.out _ _ trivial (fun hHeld => ?_))
  clear hK K
  try simp only [Act.put, sA, s0, s1]
  refine tQ 14 rfl hHeld ?_
  refine tO 15 rfl (fun K hK => ?_)
  refine wp_store_mid 75 _ _ rfl g (i * 35) r2.toArray (by rfl) (by rfl) t1.out (by rw [List.size_toArray]; exact hs2.out) (by simpa using h1b.out) ?_
  refine hK.out _ _ trivial (fun hHeld => ?_)
  clear hK K
  try simp only [Act.put]
  refine tQ 16 rfl hHeld ?_
  refine tO 17 rfl (fun K hK => ?_)
  refine wp_store_mid 75 _ _ rfl g ((i + 1) * 35) r.toArray (by rfl) (by rfl) t2.out (by rw [List.size_toArray]; exact hs1.out) (by simpa using h1a.out) ?_
  refine hK.out _ _ trivial (fun hHeld => ?_)
  clear hK K
  try simp only [Act.put]
  refine wpAnyH_done (by kernel_rfl) ?_ _
  go_wp2_with fail
  exact hfin.out
 case refine_2 =>
  refine wp_load_mid 75 _ rfl g (i * 35) rfl r _ ra.out Tryz.underlying75 rfl hs1.out (hK.out _ _ trivial (fun hHeld => ?_))
  clear hK K
  try simp only [Act.put, sA, s0, s1]
  refine tO 9 rfl (fun K hK => ?_)
  refine wp_load_mid 75 _ rfl g ((i + 1) * 35) rfl r2 _ rb.out Tryz.underlying75 rfl hs2.out (hK.out _ _ trivial (fun hHeld => ?_))
  clear hK K
  try simp only [Act.put, sA, s0, s1]
  refine tQ 14 rfl hHeld ?_
  refine tO 15 rfl (fun K hK => ?_)
  refine wp_store_mid 75 _ _ rfl g (i * 35) r2.toArray (by rfl) (by rfl) t1.out (by rw [List.size_toArray]; exact hs2.out) (by simpa using h1b.out) ?_
  refine hK.out _ _ trivial (fun hHeld => ?_)
  clear hK K
  try simp only [Act.put]
  refine tQ 16 rfl hHeld ?_
  refine tO 17 rfl (fun K hK => ?_)
  refine wp_store_mid 75 _ _ rfl g ((i + 1) * 35) r.toArray (by rfl) (by rfl) t2.out (by rw [List.size_toArray]; exact hs1.out) (by simpa using h1a.out) ?_
  refine hK.out _ _ trivial (fun hHeld => ?_)
  clear hK K
  try simp only [Act.put]
  refine wpAnyH_done (by kernel_rfl) ?_ _
  go_wp2_with fail
  exact hfin.out
end Go.Proofs.YtnonfdcbnkdmcaaGreatDoor
namespace Go.Sto
structure Rul where
 dev : Int
 kind : Int
 n : Int
def okRul (r : Rul) : Bool := decide (0 ≤ r.dev ∧ r.dev < 512 ∧ 1 ≤ r.kind ∧ r.kind ≤ 6 ∧ 0 ≤ r.n ∧ r.n ≤ 65536)
def chkR (l : List Rul) : Int := if l.all okRul then 0 else 310
def chkL (s : St) (l : List Rul) : Int := if chkS s = 0 then (if l.length ≤ 64 then chkR l else 2) else 300
theorem chkS_cases (s : St) : chkS s = 0 ∨ chkS s = 300 := by unfold chkS; split <;> simp
theorem chkR_cons (r : Rul) (l : List Rul) : chkR (r :: l) = if okRul r then chkR l else 310 := by
 unfold chkR
 rw [List.all_cons]
 cases okRul r <;> simp
theorem okRul_iff (r : Rul) : okRul r = true ↔ 0 ≤ r.dev ∧ r.dev < 512 ∧ 1 ≤ r.kind ∧ r.kind ≤ 6 ∧ 0 ≤ r.n ∧ r.n ≤ 65536 := by unfold okRul; rw [decide_eq_true_iff]
end Go.Sto
namespace Go.Proofs.YtnonfdcbnkdmcaaGreatDoor
open Go.RowKit Go.Mem Go.Shelf
open Go.Sto (Ent St Rul forkE)

def kndC : List Value := [.nilFunc, .nilFunc, .func (.func 114) #[] #[], .nilFunc, .nilFunc, .func (.func 117) #[] #[], .nilFunc, .func (.func 119) #[] #[],
 .nilFunc, .func (.func 121) #[] #[], .nilFunc, .func (.func 122) #[] #[], .func (.func 115) #[] #[], .nilFunc]
theorem sizeK : (Tryz.prog.info? 127).map (·.size) = some 14 := by kernel_rfl
theorem kinds_any (w : World) : Calls Tryz.prog 79 #[] w fun r w' => r = .returned (.agg kndC.toArray) ∧ Below w.heap.size w w' := by
 have hb := Lib.hid (Blk.new w 127 kndC)
 have hbw : Hid (Below w.heap.size w (w.alloc (.cells kndC.toArray 127))) := (Below.refl _ w).alloc (Nat.le_refl _) _
 go_enter Tryz.func79, Tryz.ntmps79
 go_wp2_with fail
 exact ret_cell (fn := Tryz.f79) (p := 0) rfl hb.out Tryz.underlying127 rfl sizeK rfl rfl ⟨rfl, hbw.out⟩

def ruC (r : Rul) : List Value := [.int .i64 r.dev, .int .i64 r.kind, .int .i64 r.n]
def RuS (w : World) (a : Option Addr) (n c : Nat) (l : List Rul) : Prop := RS 3 (fun _ x r => r = ruC x) (fun _ => True) w a n c l
section
variable {w w' : World} {a : Option Addr} {n c k : Nat} {l : List Rul} {r : Rul}
theorem RuS.below (h : RuS w a n c l) (hb : Below w.heap.size w w') : RuS w' a n c l := RS.keep h (.below hb) fun _ _ h => h
theorem RuS.at (h : RuS w a n c l) (hk : l[k]? = some r) : ∃ b off, a = some ⟨b, off, none⟩ ∧ b < w.heap.size ∧ w.cell? ⟨b, off + k * 3, none⟩ = some (.int .i64 r.dev) ∧ w.cell? ⟨b, off + k * 3 + 1, none⟩ = some (.int .i64 r.kind) ∧ w.cell? ⟨b, off + k * 3 + 2, none⟩ = some (.int .i64 r.n) := by
 obtain ⟨b, off, q, rfl, hb, _, rfl, _, hr⟩ := RS.get h hk
 exact ⟨b, off, rfl, hb, hr 0 _ rfl, hr 1 _ rfl, hr 2 _ rfl⟩
end
def liC (s : St) (a : Option Addr) (n c : Nat) (ra : Option Addr) (rn rc : Nat) : List Value := [.int .i64 s.id, .int .i64 s.priv, .slice a n c, .slice ra rn rc]

theorem okRul_bad {r : Rul} (h : r.dev < 0 ∨ 512 ≤ r.dev ∨ r.kind < 1 ∨ 6 < r.kind ∨ r.n < 0 ∨ 65536 < r.n) : Sto.okRul r = false := by
 unfold Sto.okRul
 exact decide_eq_false (by omega)
set_option maxRecDepth 20000 in
set_option maxHeartbeats 4000000 in
theorem liCheck_any (a : Option Addr) (n c : Nat) (s : St) (ra : Option Addr) (rn rc : Nat) (rs : List Rul) (w : World) (HT : Tabs w) (H : SV (fun _ => True) w a n c s) (HR : RuS w ra rn rc rs) :
 Calls Tryz.prog 12 #[.agg (liC s a n c ra rn rc).toArray] w (RetI (Sto.chkL s rs) w) := by
 have hlen := HR.len
 have hmx := RS.max HR
 have hle := RS.le HR
 have HT' := Lib.hid HT; have H' := Lib.hid H; have HR' := Lib.hid HR
 clear HT H HR
 obtain ⟨sb, hsb⟩ : ∃ sb, Hid (w.heap.size = sb) := ⟨_, rfl⟩
 have hB1 : Hid (Blk (w.alloc (.cells #[.int .i64 s.id, .int .i64 s.priv, .slice a n c, .slice ra rn rc] 27)) sb 27 (liC s a n c ra rn rc)) := by rw [← hsb.out]; exact Blk.new w _ (liC s a n c ra rn rc)
 have hb1 : Hid (Below w.heap.size w (w.alloc (.cells #[.int .i64 s.id, .int .i64 s.priv, .slice a n c, .slice ra rn rc] 27))) := (Below.refl _ w).alloc (Nat.le_refl _) _
 have hc := Lib.hid (fun W (hW : Below w.heap.size w W) => Check_any (fun _ => True) a n c s W (HT'.out.below hW) (H'.out.below hW))
 have n63 : (rn : Int) ≤ 9223372036854775807 := by omega
 unfold liC
 rcases Sto.chkS_cases s with hs | hs
 · have hX : Hid (Sto.chkL s rs = if rs.length ≤ 64 then Sto.chkR rs else 2) := by show _ = _; unfold Sto.chkL; rw [if_pos hs]
   rw [hs] at hc
   obtain ⟨X, hXX⟩ : ∃ X, Hid (X = RetI (Sto.chkL s rs) w) := ⟨_, rfl⟩
   rw [← hXX.out]
   have hret : Hid (∀ W q, Below w.heap.size w W → q = Sto.chkL s rs → X (.returned (.int .i64 q)) W) := fun W q h e => by rw [hXX.out, e]; exact ⟨rfl, h⟩
   clear hs hXX
   by_cases hr64 : rn ≤ 64
   · have g64 : decide ((64 : Int) < (rn : Int)) = false := decide_eq_false (by omega)
     have hX2 : Hid (Sto.chkL s rs = Sto.chkR rs) := by show _ = _; rw [hX.out, if_pos (by omega)]
     clear hX
     go_enter Tryz.func12, Tryz.ntmps12
     go_wp2_with fail
     rw [hsb.out]
     generalize World.alloc w _ = W1 at *
     have c0 := hB1.out.at_ (i := 0) rfl
     have c1 := hB1.out.at_ (i := 1) rfl
     have c2 := hB1.out.at_ (i := 2) rfl
     go_wp2_with fail
     refine (hc.out _ hb1.out).mono ?_
     rintro e w2 ⟨rfl, hb2⟩
     have hB2' := Lib.hid (hB1.out.below hb2 hB1.out.lt)
     have hb2' := Lib.hid (hb1.out.trans (hb2.mono hb1.out.size))
     have d3 := hB2'.out.at_ (i := 3) rfl
     have hR2 := Lib.hid (HR'.out.below hb2'.out)
     clear hb2 hb1 hB1 hc c0 c1 c2
     go_wp2_with fail
     go_loopw [18] (fun i wr => ∃ k : Nat, k ≤ rn ∧ i = .int .i64 k ∧ Hid (Sto.chkR rs = Sto.chkR (rs.drop k)) ∧ Hid (Below w2.heap.size w2 wr)) (fun i _ => rn - (intOf i).toNat)
     case atStart => exact ⟨0, Nat.zero_le _, rfl, rfl, Below.refl _ _⟩
     case round =>
      obtain ⟨k, hk, rfl, hl, hb⟩ := hrel
      clear d3
      have hbw := Lib.hid (hb2'.out.trans (hb.out.mono hb2'.out.size))
      by_cases hlt : k < rn
      · have hkl : k < rs.length := by omega
        obtain ⟨x, hx⟩ : ∃ x, rs[k]? = some x := ⟨_, List.getElem?_eq_getElem hkl⟩
        have hl' := hl.out
        rw [List.drop_eq_getElem_cons hkl, (List.getElem?_eq_some_iff.1 hx).2, Sto.chkR_cons] at hl'
        obtain ⟨b, off, rfl, hbl, e0, e1, e2⟩ := (hR2.out.below hb.out).at hx
        have hl2 := Lib.hid hl'
        have k0 : (0 : Int) ≤ (k : Int) := by omega
        have k1 : (k : Int) < (rn : Int) := by omega
        clear hl hl' hx
        obtain ⟨dv, kd, nn⟩ := x
        simp only at e0 e1 e2
        have hbad : Hid (dv < 0 ∨ 512 ≤ dv ∨ kd < 1 ∨ 6 < kd ∨ nn < 0 ∨ 65536 < nn → ∀ W, Below w.heap.size w W → X (.returned (.int .i64 310)) W) := fun h W hW => hret.out W _ hW (by
         rw [hX2.out, hl2.out, okRul_bad h]; rfl)
        have hbx : Hid (∀ o, Below w.heap.size w (wr.alloc o)) := fun o => hbw.out.alloc hbw.out.size _
        by_cases q1 : dv < 0
        · have g1 : decide (dv < 0) = true := decide_eq_true q1
          have hbad2 := Lib.hid (hbad.out (.inl q1))
          clear hbad
          go_wp2_with fail
          exact hbad2.out _ (hbx.out _)
        have g1 : decide (dv < 0) = false := decide_eq_false q1
        by_cases q2 : 512 ≤ dv
        · have g2 : decide (512 ≤ dv) = true := decide_eq_true q2
          have hbad2 := Lib.hid (hbad.out (.inr (.inl q2)))
          clear hbad
          go_wp2_with fail
          exact hbad2.out _ (hbx.out _)
        have g2 : decide (512 ≤ dv) = false := decide_eq_false q2
        by_cases q3 : kd < 1
        · have g3 : decide (kd < 1) = true := decide_eq_true q3
          have hbad2 := Lib.hid (hbad.out (.inr (.inr (.inl q3))))
          clear hbad
          go_wp2_with fail
          exact hbad2.out _ (hbx.out _)
        have g3 : decide (kd < 1) = false := decide_eq_false q3
        by_cases q4 : 6 < kd
        · have g4 : decide (6 < kd) = true := decide_eq_true q4
          have hbad2 := Lib.hid (hbad.out (.inr (.inr (.inr (.inl q4)))))
          clear hbad
          go_wp2_with fail
          exact hbad2.out _ (hbx.out _)
        have g4 : decide (6 < kd) = false := decide_eq_false q4
        by_cases q5 : nn < 0
        · have g5 : decide (nn < 0) = true := decide_eq_true q5
          have hbad2 := Lib.hid (hbad.out (.inr (.inr (.inr (.inr (.inl q5))))))
          clear hbad
          go_wp2_with fail
          exact hbad2.out _ (hbx.out _)
        have g5 : decide (nn < 0) = false := decide_eq_false q5
        by_cases q6 : 65536 < nn
        · have g6 : decide (65536 < nn) = true := decide_eq_true q6
          have hbad2 := Lib.hid (hbad.out (.inr (.inr (.inr (.inr (.inr q6))))))
          clear hbad
          go_wp2_with fail
          exact hbad2.out _ (hbx.out _)
        have g6 : decide (65536 < nn) = false := decide_eq_false q6
        have hg : Hid (Sto.chkR rs = Sto.chkR (rs.drop (k + 1))) := by
         show _ = _
         rw [hl2.out, if_pos ((Sto.okRul_iff _).2 ⟨by show 0 ≤ dv; omega, by show dv < 512; omega, by show 1 ≤ kd; omega, by show kd ≤ 6; omega, by show 0 ≤ nn; omega, by show nn ≤ 65536; omega⟩)]
        have hbz : Hid (∀ o, Below w2.heap.size w2 (wr.alloc o)) := fun o => hb.out.alloc hb.out.size _
        have kw : IntKind.i64.wrap ((k : Int) + 1) = (k : Int) + 1 := IntWalk.i64_in _ (by omega)
        clear hbad hl2
        go_wp2_with fail
        go_roundw
        case rel => exact ⟨k + 1, by omega, by go_num, hg, hbz.out _⟩
        case measure => simp [intOf]; omega
      · have hkn : k = rn := by omega
        subst hkn
        have hfin : Hid (∀ W, Below w.heap.size w W → X (.returned (.int .i64 0)) W) := fun W hW => hret.out W 0 hW (by rw [hX2.out, hl.out, List.drop_eq_nil_of_le (by omega)]; rfl)
        go_wp2_with fail
        exact hfin.out _ hbw.out
   · have g64 : decide ((64 : Int) < (rn : Int)) = true := decide_eq_true (by omega)
     have hX2 : Hid (Sto.chkL s rs = 2) := by show _ = _; rw [hX.out, if_neg (by omega)]
     have hfin : Hid (∀ W, Below w.heap.size w W → X (.returned (.int .i64 2)) W) := fun W hW => hret.out W 2 hW hX2.out.symm
     clear hX hX2
     go_enter Tryz.func12, Tryz.ntmps12
     go_wp2_with fail
     rw [hsb.out]
     generalize World.alloc w _ = W1 at *
     have c0 := hB1.out.at_ (i := 0) rfl
     have c1 := hB1.out.at_ (i := 1) rfl
     have c2 := hB1.out.at_ (i := 2) rfl
     go_wp2_with fail
     refine (hc.out _ hb1.out).mono ?_
     rintro e w2 ⟨rfl, hb2⟩
     have hB2' := Lib.hid (hB1.out.below hb2 hB1.out.lt)
     have hb2' := Lib.hid (hb1.out.trans (hb2.mono hb1.out.size))
     have d3 := hB2'.out.at_ (i := 3) rfl
     clear hb2 hb1 hB1 hc c0 c1 c2
     go_wp2_with fail
     exact hfin.out _ hb2'.out
 · have hX : Hid (Sto.chkL s rs = 300) := by show _ = _; unfold Sto.chkL; rw [if_neg (by omega)]
   rw [hs] at hc
   obtain ⟨X, hXX⟩ : ∃ X, Hid (X = RetI (Sto.chkL s rs) w) := ⟨_, rfl⟩
   rw [← hXX.out]
   have hfin : Hid (∀ W, Below w.heap.size w W → X (.returned (.int .i64 300)) W) := fun W h => by rw [hXX.out, hX.out]; exact ⟨rfl, h⟩
   clear hs hXX hX
   go_enter Tryz.func12, Tryz.ntmps12
   go_wp2_with fail
   rw [hsb.out]
   generalize World.alloc w _ = W1 at *
   have c0 := hB1.out.at_ (i := 0) rfl
   have c1 := hB1.out.at_ (i := 1) rfl
   have c2 := hB1.out.at_ (i := 2) rfl
   go_wp2_with fail
   refine (hc.out _ hb1.out).mono ?_
   rintro e w2 ⟨rfl, hb2⟩
   have hb2' := Lib.hid (hb1.out.trans (hb2.mono hb1.out.size))
   clear hb2 hb1 hB1 hc c0 c1 c2
   go_wp2_with fail
   exact hfin.out _ hb2'.out
end Go.Proofs.YtnonfdcbnkdmcaaGreatDoor

