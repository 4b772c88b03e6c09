/- tally.Value: a range over a function -/
import Derived.Test.YtlmngdcifappoaaB
import Derived.RangeFuncFrom
import Derived.RangeFuncBox
import Derived.RangeFuncLeaves
import Derived.RangeFuncBound
import Derived.RangeFuncCalls
import Derived.Shelf.Abstract
import Derived.OwnWalkIn
import Derived.TacticsInMore
import Derived.LoopNIn
import Derived.LoopIn
namespace Go.Proofs.Ytlmngdcifappoaa
open Go.RowKit Go.Shelf
open Tally (Tl)

attribute [local go_sem] Oper.semAt_some

theorem cell_new_l (W : World) (v : Value) (t : TypeId) : (W.alloc (.cells #[v] t)).cell? ⟨W.heap.size, 0, none⟩ = some v ∧ (W.alloc (.cells #[v] t)).frozen? ⟨W.heap.size, 0, none⟩ = false :=
  ⟨by rw [cell_of_row _ _ _ _ _ _ (heap_alloc_new W _)]; rfl, frozen_of_row _ _ _ _ _ (heap_alloc_new W _)⟩
theorem cell_alloc_l {W : World} {a : Addr} {v : Value} (o : Obj) (h : W.cell? a = some v) : (W.alloc o).cell? a = some v := cell_kept h (World.grownBy_alloc W o none) (fun r e => by cases e)
theorem frozen_alloc_l {W : World} {a : Addr} {v : Value} (o : Obj) (h : W.cell? a = some v) (hf : W.frozen? a = false) : (W.alloc o).frozen? a = false := (frozen_kept h (World.grownBy_alloc W o none) (fun r e => by cases e)).trans hf

set_option maxHeartbeats 2000000 in
theorem iter_in (l Bs n₀ n c : Nat) (a : Option Addr) (ts : List Tl)  (J Jx : List Int → World → Prop) (W : World)
    (hJa : AbidesFrom W.heap.size J)
    (hY : ∀ pre x W1, J pre W1 → pre.length < ts.length → YieldAt Fence.wide 4 Try.prog l #[.int .i64 x] W1 fun e W' =>
      (e = .returned (.bool true) ∧ J (pre ++ [x]) W' ∧ Below n₀ W1 W') ∨ (e = .returned (.bool false) ∧ Jx (pre ++ [x]) W'))
    (H : TS W a n c ts) (hn₀ : n₀ ≤ W.heap.size) (hbl : ∀ ad, a = some ad → 0 < n → ad.block < n₀)
    (hBs : W.cell? ⟨Bs, 0, none⟩ = some (.slice a n c)) (h0 : J [] W) :
    CallsIn Fence.wide 5 Try.prog 32 #[.func (.yield l) #[] #[], .pointer (some ⟨Bs, 0, none⟩)] W fun e W' => (∃ v, e = .returned v) ∧
      ((∃ ys, ys = ts.map Tl.n ∧ J ys W') ∨ (∃ pre, pre <+: ts.map Tl.n ∧ Jx pre W')) := by
  have hle := H.le
  have hmx := H.max
  refine callsIn_of_wp Try.func32 rfl trivial ?_ rfl
  simp only [Try.ntmps32, List.size_toArray, List.length_cons, List.length_nil, Nat.reduceAdd, Nat.reduceSub, Array.replicate_succ, Array.replicate_zero, List.push_toArray, List.append_toArray, List.nil_append, List.cons_append]
  gi_wp2
  gi_loopw [7] (fun i wr => ∃ k : Nat, k ≤ n ∧ i = .int .i64 k ∧ J ((ts.take k).map Tl.n) wr ∧ Below n₀ W wr ∧ W.heap.size ≤ wr.heap.size)
    (fun i _ => n - (intOf i).toNat)
  case atStart => exact ⟨0, Nat.zero_le _, rfl, h0, Below.refl _ _, Nat.le_refl _⟩
  case round =>
    obtain ⟨k, hk, rfl, hJs, hnx, hsz⟩ := hrel
    by_cases hlt : k < n
    · obtain ⟨b, off, rfl, hbs, hc⟩ := H.cells (by omega)
      have hb0 : b < n₀ := hbl _ rfl (by omega)
      have hkl : k < ts.length := by rw [H.len]; exact hlt
      obtain ⟨c0, c1, c2⟩ := hc k ts[k] (List.getElem?_eq_getElem hkl)
      rw [← hnx.cell (p := ⟨b, _, none⟩) hb0] at c0 c1 c2
      have htk : (ts.take (k + 1)).map Tl.n = (ts.take k).map Tl.n ++ [ts[k].n] := by rw [List.take_succ_eq_append_getElem hkl, List.map_append]; rfl
      generalize ts[k] = t at *
      have hJ1 : J ((ts.take k).map Tl.n) (wr.alloc (.cells #[.int .i64 t.d, .int .i64 t.s, .int .i64 t.n] 38)) := hJa _ wr _ none hJs (World.grownBy_alloc _ _ _) (fun r e => by cases e)
      obtain ⟨fn, tmps, assign, body, hy, hR⟩ := hY _ t.n _ hJ1 (by simp; omega)
      have htk' := Lib.hid htk
      have hJ' := Lib.hid hJs
      clear htk hc hkl hY hJs hJ1
      gi_wp2
      refine hR.mono ?_
      rintro e W3 (⟨rfl, hJ3, hk3⟩ | ⟨rfl, hJx3⟩)
      · gi_wp2
        go_roundw
        case rel => exact ⟨k + 1, by omega, by go_num, by rw [htk'.out]; exact hJ3, (hnx.alloc (by omega) _).trans hk3, by have := hk3.size; simp at this; omega⟩
        case measure => simp [intOf]; omega
      · gi_wp2
        refine bodyPost_ret (results_none rfl _ _ _) rfl ?_
        exact ⟨⟨_, rfl⟩, .inr ⟨_, ⟨(ts.drop (k + 1)).map Tl.n, by rw [← htk'.out, ← List.map_append, List.take_append_drop]⟩, hJx3⟩⟩
    · obtain rfl : k = n := by omega
      rw [List.take_of_length_le (by rw [H.len]; omega)] at hJs
      gi_wp2
      go_end0
      exact ⟨⟨_, rfl⟩, .inl ⟨_, rfl, hJs⟩⟩

theorem iter_stops (Bs n₀ n c : Nat) (a : Option Addr) (ts : List Tl) (w : World) (hBs : Bs < w.heap.size) (hn₀ : n₀ ≤ w.heap.size) (hbl : ∀ ad, a = some ad → 0 < n → ad.block < n₀)
    (H : TS w a n c ts) (hc : w.cell? ⟨Bs, 0, none⟩ = some (.slice a n c)) :
    SeqStopsK Fence.wide 5 Try.prog 32 #[.pointer (some ⟨Bs, 0, none⟩)] (fun x : Int => #[Value.int .i64 x]) (Below n₀) (fun ys => ys = ts.map Tl.n) (fun pre => pre <+: ts.map Tl.n) ts.length w := fun l J Jx W hW hJ _ hY h0 => by
  have hc' := (hW.cell (p := ⟨Bs, 0, none⟩) hBs).trans hc
  exact iter_in l Bs n₀ n c a ts J Jx W hJ hY (H.below hW (Nat.le_refl _)) (by have := hW.size; omega) hbl hc' h0

theorem amounts_any (a : Option Addr) (n c : Nat) (w : World) :
    Calls Try.prog 22 #[.slice a n c] w fun e w' => e = .returned (.func (.func 32) #[] #[.pointer (some ⟨w.heap.size, 0, none⟩)]) ∧ w' = w.alloc (.cells #[.slice a n c] 22) := by
  go_enter Try.func22, Try.ntmps22
  go_wp2
  go_ret
  exact ⟨rfl, rfl⟩

def vsum (l : List Int) : Int := l.foldl (fun a x => wrap64 (a + x)) 0
theorem vsum_snoc (l : List Int) (x : Int) : vsum (l ++ [x]) = wrap64 (vsum l + x) := by simp [vsum]
theorem vsum_value (l : List Tl) : vsum (l.map Tl.n) = Tally.value l := by simp [vsum, Tally.value, Tally.sumFrom, List.foldl_map]

/-- a number and an error code. -/
def RetN (r : Int × Int) (w : World) (e : Ending) (w' : World) : Prop := e = .returned (.tuple #[.int .i64 r.1, .int .i64 r.2]) ∧ Below w.heap.size w w'

set_option maxHeartbeats 2000000 in
theorem value_any (a : Option Addr) (n c : Nat) (l : List Tl) (w : World) (H : TS w a n c l) :
    Calls Try.prog 12 #[.slice a n c] w (RetN (Tally.valueSpec l) w) := by
  by_cases hchk : Tally.chk l = true
  · have hE := Tally.chkE_t hchk
    have hres : Hid (Tally.valueSpec l = (Tally.value l, 0)) := by simp [Hid, Tally.valueSpec, hchk]
    have hb0 : Below w.heap.size w (w.alloc (.cells #[.int .i64 0] 3)) := (Below.refl _ _).alloc (Nat.le_refl _) _
    obtain ⟨W0, hW0⟩ : ∃ W0, W0 = w.alloc (.cells #[.int .i64 0] 3) := ⟨_, rfl⟩
    have hsz0 : w.heap.size < W0.heap.size := by rw [hW0]; simp
    have hc0 : W0.cell? ⟨w.heap.size, 0, none⟩ = some (.int .i64 0) := by rw [hW0]; exact (cell_new_l w (.int .i64 0) 3).1
    have hf0 : W0.frozen? ⟨w.heap.size, 0, none⟩ = false := by rw [hW0]; exact (cell_new_l w (.int .i64 0) 3).2
    rw [← hW0] at hb0
    have H0 := H.below hb0 (Nat.le_refl _)
    clear hchk
    refine callsIn_wide (n := 6).1 ?_
    refine callsIn_of_wp_marks Try.func12 rfl trivial ?_ rfl
    simp only [Try.ntmps12, List.size_toArray, List.length_cons, List.length_nil, Nat.reduceAdd, Nat.reduceSub, Array.replicate_succ, Array.replicate_zero, List.push_toArray, List.append_toArray, List.nil_append, List.cons_append]
    gi_wp2_with fail
    rw [← hW0]
    refine ⟨trivial, (callsIn_wide.2 (check_any a n c l _ H0)).mono ?_⟩
    rintro e w1 ⟨rfl, hb1⟩
    have q0 := (hb1.cell (p := ⟨w.heap.size, 0, none⟩) hsz0).trans hc0
    have f0 := (hb1.frozen (p := ⟨w.heap.size, 0, none⟩) hsz0).trans hf0
    have H1 := H0.below hb1 (Nat.le_refl _)
    have hB1 : Below w.heap.size w w1 := hb0.trans (hb1.mono hb0.size)
    have hsz1 : w.heap.size < w1.heap.size := Nat.lt_of_lt_of_le hsz0 hb1.size
    gi_wp2_with fail
    refine ⟨trivial, (callsIn_wide.2 (amounts_any a n c w1)).mono ?_⟩
    rintro e w2 ⟨rfl, rfl⟩
    gi_wp2_with fail
    obtain ⟨hw2, _⟩ := cell_new_l w1 (.slice a n c) 22
    obtain ⟨W2, hW2⟩ : ∃ W2, W2 = w1.alloc (.cells #[.slice a n c] 22) := ⟨_, rfl⟩
    have hs2 : W2.heap.size = w1.heap.size + 1 := by rw [hW2]; simp
    have q2 : W2.cell? ⟨w.heap.size, 0, none⟩ = some (.int .i64 0) := by rw [hW2]; exact cell_alloc_l _ q0
    have f2 : W2.frozen? ⟨w.heap.size, 0, none⟩ = false := by rw [hW2]; exact frozen_alloc_l _ q0 f0
    have hB2 : Below w.heap.size w W2 := by rw [hW2]; exact hB1.alloc hB1.size _
    have H2 : TS W2 a n c l := by rw [hW2]; exact H1.below ((Below.refl _ w1).alloc (Nat.le_refl _) _) (Nat.le_refl _)
    rw [← hW2] at hw2 ⊢
    have hbl : ∀ ad, a = some ad → 0 < n → ad.block < w.heap.size := fun ad e hn => by
      obtain ⟨b, off, e', hb, _⟩ := H.cells hn
      rw [e] at e'; cases e'; exact hb
    clear hW2 hW0
    refine wpIn_rangeFunc_ownF rfl (by omega) (gf := 32) (lb := #[.pointer (some ⟨w1.heap.size, 0, none⟩)]) rfl trivial (enters_of Try.func32 (by kernel_rfl) rfl)
      (iter_stops w1.heap.size w.heap.size n c a l W2 (by omega) (by omega) hbl H2 hw2) belowK_t (belowK_b (by omega)) (Below.refl _ _) (fun _ => rfl)
      (fun pre W => (W.cell? ⟨w.heap.size, 0, none⟩ = some (.int .i64 (vsum pre)) ∧ W.frozen? ⟨w.heap.size, 0, none⟩ = false) ∧ Below w.heap.size w W)
      (fun _ _ _ => False)
      (OwnFrom.and (Own.from (fun s A B row hs hg hr => ⟨cell_kept hs.1 hg hr, (frozen_kept hs.1 hg hr).trans hs.2⟩) _) (ownFrom_below (Nat.le_refl _) (by omega)))
      (fun _ _ _ _ _ hs _ _ => hs)
      ⟨⟨q2, f2⟩, hB2⟩
      (fun x => { tmps := #[.slice a n c, undef, .pointer (some ⟨w.heap.size, 0, none⟩), .int .i64 0, .int .i64 x, .slice a n c, .int .i64 0, .int .i64 0, .bool false, undef, .slice a n c, .func (.func 32) #[] #[.pointer (some ⟨w1.heap.size, 0, none⟩)], .int .i64 x, undef, undef, undef, undef], defers := [] }) ?assign ?body ?done ?stop
    case assign =>
      intro l x W K hK
      gi_wp2
      exact hK
    case body =>
      rintro l pre x W ⟨⟨hc, hf⟩, hB⟩ _
      gi_wp2
      exact ⟨KeepsOthers.setCell _ _ _, (Below.refl w.heap.size W).setCell (p := ⟨w.heap.size, 0, none⟩) (Nat.le_refl _) _, ⟨by rw [vsum_snoc]; exact World.cell?_setCell_same' _ _ _ (by rw [hc]; rfl), by rw [World.frozen?_setCell]; exact hf⟩, hB.setCell (p := ⟨w.heap.size, 0, none⟩) (Nat.le_refl _) _⟩
    case done =>
      rintro D ys W hD rfl ⟨⟨hc, hf⟩, hB⟩ hK
      gi_wp2
      have hK' := (KeepsOthers.setCell W ⟨w.heap.size, 0, none⟩ (.int .i64 (vsum (l.map Tl.n)))).same D _ hK rfl
      refine ⟨by simp, .inl ⟨_, _, rfl, run_takeDeferred hK', ?_⟩⟩
      have hc5 := cell_kept (World.cell?_setCell_same' W ⟨w.heap.size, 0, none⟩ (.int .i64 (vsum (l.map Tl.n))) (by rw [hc]; rfl)) (grownBy_putObj' _ D (.deferred none)) (fun r e => by cases e; exact ⟨_, hK', rfl⟩)
      refine ⟨.tuple #[.int .i64 (vsum (l.map Tl.n)), .int .i64 0], ?_, ?_, (hB.setCell (p := ⟨w.heap.size, 0, none⟩) (Nat.le_refl _) _).trans (belowK_b (w := W2) (by omega) _ D _ _ hD hK' rfl rfl)⟩
      · simp [results, Try.f12, go_sem, hc5]
      · rw [hres.out, vsum_value]
    case stop =>
      rintro D c pre W _ _ h _
      exact h.elim
  · have hchk' : Tally.chk l = false := by simpa using hchk
    have hE := Tally.chkE_f hchk'
    have hres : Hid (Tally.valueSpec l = (0, 150)) := by simp [Hid, Tally.valueSpec, hchk']
    have hb0 : Below w.heap.size w (w.alloc (.cells #[.int .i64 0] 3)) := (Below.refl _ _).alloc (Nat.le_refl _) _
    obtain ⟨W0, hW0⟩ : ∃ W0, W0 = w.alloc (.cells #[.int .i64 0] 3) := ⟨_, rfl⟩
    have hsz0 : w.heap.size < W0.heap.size := by rw [hW0]; simp
    have hc0 : W0.cell? ⟨w.heap.size, 0, none⟩ = some (.int .i64 0) := by rw [hW0]; exact (cell_new_l w (.int .i64 0) 3).1
    have hf0 : W0.frozen? ⟨w.heap.size, 0, none⟩ = false := by rw [hW0]; exact (cell_new_l w (.int .i64 0) 3).2
    rw [← hW0] at hb0
    have H0 := H.below hb0 (Nat.le_refl _)
    clear hchk hchk'
    go_enter Try.func12, Try.ntmps12
    go_wp2_with fail
    rw [← hW0]
    refine (check_any a n c l _ H0).mono ?_
    rintro e w1 ⟨rfl, hb1⟩
    have q0 := (hb1.cell (p := ⟨w.heap.size, 0, none⟩) hsz0).trans hc0
    have f0 := (hb1.frozen (p := ⟨w.heap.size, 0, none⟩) hsz0).trans hf0
    go_wp2_with fail
    refine bodyPost_ret (v := .tuple #[.int .i64 0, .int .i64 150]) (by simp [results, Try.results12, go_sem, q0]) rfl ?_
    refine ⟨by rw [hres.out], (hb0.trans (hb1.mono hb0.size)).setCell (p := ⟨w.heap.size, 0, none⟩) (Nat.le_refl _) _⟩

end Go.Proofs.Ytlmngdcifappoaa
