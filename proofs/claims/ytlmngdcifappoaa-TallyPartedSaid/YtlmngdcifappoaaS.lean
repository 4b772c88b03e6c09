/- slices of numbers in memory; opening such an argument -/
import Derived.Test.YtlmngdcifappoaaK
namespace Go.Proofs.Ytlmngdcifappoaa
open Go.ChangeShapes Go.WideShapes Go.ChangeAt Go.RowKit Go.Joins

/-- a slice of numbers in memory. -/
structure IS (w : World) (a : Option Addr) (n c : Nat) (l : List Int) : Prop where
  len : l.length = n
  le : n ≤ c
  max : c ≤ 9223372036854775807
  cells : 0 < n → ∃ b off, a = some ⟨b, off, none⟩ ∧ b < w.heap.size ∧ ∀ (i : Nat) x, l[i]? = some x → w.cell? ⟨b, off + i, none⟩ = some (.int .i64 x)
  wf : ∀ x ∈ l, InI x

theorem IS.below {w w' : World} {a : Option Addr} {n c : Nat} {l : List Int} (h : IS w a n c l) (hb : Below w.heap.size w w') : IS w' a n c l :=
  ⟨h.len, h.le, h.max, fun hn => by
    obtain ⟨b, off, rfl, hlt, hc⟩ := h.cells hn
    exact ⟨b, off, rfl, Nat.lt_of_lt_of_le hlt hb.size, fun i x hx => (hb.cell (p := ⟨b, off + i, none⟩) hlt).trans (hc i x hx)⟩, h.wf⟩

section
variable {H : Type} {enc : TypeId × Value → H} {W : World}

theorem open_is {a : Option Addr} {n c : Nat} {d : DataW H} {p : List MemPlace} (h : DataW.Trod enc Try.prog W 0 (fun _ => true) true 39 (.slice a n c) d p) : ∃ l, IS W a n c l := by
  obtain ⟨fuel, hf⟩ := h
  have hf' : DataW.trod enc Try.prog W 0 (fun _ => true) true fuel 39 [.slice a n c] = some (d, p) := by simpa [Value.cells] using hf
  rcases Deep.open_slice Try.underlying39 hf' with ⟨hcs, _⟩ | ⟨x, len, cap, m, k, D, Pl, hcs, hb, hl, hm, hmm, _, hx⟩
  · simp at hcs
    obtain ⟨rfl, rfl, rfl⟩ := hcs
    exact ⟨[], rfl, Nat.le_refl _, by omega, fun h => absurd h (by omega), fun x hx => by cases hx⟩
  · simp at hcs
    obtain ⟨rfl, rfl, rfl⟩ := hcs
    simp at hmm
    subst hmm
    have k3 : Try.prog.cellsOf 3 = 1 := by kernel_rfl
    rw [k3] at hx
    have each : ∀ i, i < m → ∃ t : Int, W.cell? (x.add (i * 1)) = some (.int .i64 t) ∧ InI t := by
      intro i hi
      obtain ⟨cs', h1, h2⟩ := hx i hi
      obtain ⟨_, hlen, hcell⟩ := World.cells?_some h1
      obtain ⟨a0, e0, _, w0⟩ := DataW.trod_int Try.underlying3 h2
      subst e0
      have e0 := hcell 0 (by omega)
      exact ⟨a0, by simpa [Addr.add] using e0, wf_bounds w0⟩
    obtain ⟨T, hT⟩ := Deep.choose_lt each
    refine ⟨(List.range n).map T, by simp, hl, by unfold maxLen at hm; omega, fun hn => ?_, fun t ht => ?_⟩
    · obtain ⟨b, off, spot⟩ := x
      have h0 := (hT 0 (by omega)).1
      have hspot : spot = none := by simpa [Addr.add] using World.cell?_spot h0
      subst hspot
      have hbl : b < W.heap.size := World.block_lt_of_cell? W _ (by simpa [Addr.add] using h0)
      refine ⟨b, off, rfl, hbl, fun i t ht => ?_⟩
      have hi : i < n := by have := (List.getElem?_eq_some_iff.1 ht).1; simpa using this
      have hti : t = T i := by rw [List.getElem?_map, List.getElem?_range hi] at ht; simpa using ht.symm
      subst hti
      have g0 := (hT i (by omega)).1
      rw [Addr.add_lit] at g0
      simpa using g0
    · simp at ht
      obtain ⟨i, hi, rfl⟩ := ht
      exact (hT i (by omega)).2

end
end Go.Proofs.Ytlmngdcifappoaa
