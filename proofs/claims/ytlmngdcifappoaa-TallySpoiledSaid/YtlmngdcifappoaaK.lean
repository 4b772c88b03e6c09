/- opening the arguments of the laws of chapter 15 -/
import Derived.Test.YtlmngdcifappoaaRows
import Derived.Test.YtlmngdcifappoaaJ
import Derived.ProofKit
import Derived.OpenShut
import Derived.ShutString
import Derived.ChangeOld
import Derived.Below
import Derived.Carry
import Derived.Lib.SmallJoins
import Derived.Deep.Slices
import Derived.Deep.Strs
namespace Go.Proofs.Ytlmngdcifappoaa
open Go.ChangeShapes Go.WideShapes Go.ChangeAt Go.RowKit Go.Joins
open Tally (Tl)

theorem own : ownKnob Try.prog.godebug = none := by kernel_rfl
theorem laidOut : laidOutB Try.prog = true := by kernel_rfl
theorem cells38 : Try.prog.cellsOf 38 = 3 := by kernel_rfl
theorem cells24 : Try.prog.cellsOf 24 = 2 := by kernel_rfl

theorem wf_bounds {n : Int} (h : (Lit.int .i64 n).wf = true) : InI n := by
  have := bounds_i64 h
  unfold InI; omega

section
variable {H : Type} {enc : TypeId × Value → H} {W : World}

theorem open_elem {fuel : Nat} {cs : List Value} {x : DataW H × List MemPlace} (h : DataW.trod enc Try.prog W 0 (fun _ => true) true fuel 38 cs = some x) :
    ∃ t : Tl, cs = [.int .i64 t.d, .int .i64 t.s, .int .i64 t.n] ∧ InI t.d ∧ InI t.s ∧ InI t.n := by
  obtain ⟨y0, y1, y2, n, hx, hl, h0, h1, h2⟩ := Deep.trod_struct3 Try.underlying38 h
  rw [cells38] at hl
  match cs, hl with
  | [c0, c1, c2], _ =>
    have k3 : Try.prog.cellsOf 3 = 1 := by kernel_rfl
    simp [k3] at h0 h1 h2
    obtain ⟨a0, e0, _, w0⟩ := DataW.trod_int Try.underlying3 h0
    obtain ⟨a1, e1, _, w1⟩ := DataW.trod_int Try.underlying3 h1
    obtain ⟨a2, e2, _, w2⟩ := DataW.trod_int Try.underlying3 h2
    simp at e0 e1 e2
    subst e0 e1 e2
    exact ⟨⟨a0, a1, a2⟩, rfl, wf_bounds w0, wf_bounds w1, wf_bounds w2⟩

theorem open_ts {a : Option Addr} {n c : Nat} {d : DataW H} {p : List MemPlace} (h : DataW.Trod enc Try.prog W 0 (fun _ => true) true 22 (.slice a n c) d p) : ∃ l, TS W a n c l := by
  obtain ⟨fuel, hf⟩ := h
  have hf' : DataW.trod enc Try.prog W 0 (fun _ => true) true fuel 22 [.slice a n c] = some (d, p) := by simpa [Value.cells] using hf
  rcases Deep.open_slice Try.underlying22 hf' with ⟨hcs, _⟩ | ⟨x, len, cap, m, k, D, Pl, hcs, hb, hl, hm, hmm, _, hx⟩
  · simp at hcs
    obtain ⟨rfl, rfl, rfl⟩ := hcs
    exact ⟨[], ts_nil W⟩
  · simp at hcs
    obtain ⟨rfl, rfl, rfl⟩ := hcs
    simp at hmm
    subst hmm
    rw [cells38] at hx
    have each : ∀ i, i < m → ∃ t : Tl, (W.cell? (x.add (i * 3)) = some (.int .i64 t.d) ∧ W.cell? ((x.add (i * 3)).add 1) = some (.int .i64 t.s) ∧ W.cell? ((x.add (i * 3)).add 2) = some (.int .i64 t.n)) ∧ InI t.d ∧ InI t.s ∧ InI t.n := by
      intro i hi
      obtain ⟨cs', h1, h2⟩ := hx i hi
      obtain ⟨t, rfl, hw⟩ := open_elem h2
      obtain ⟨_, hlen, hcell⟩ := World.cells?_some h1
      have e0 := hcell 0 (by omega)
      have e1 := hcell 1 (by omega)
      have e2 := hcell 2 (by omega)
      exact ⟨t, ⟨by simpa [Addr.add] using e0, by simpa using e1, by simpa using e2⟩, hw⟩
    have : Inhabited Tl := ⟨⟨0, 0, 0⟩⟩
    obtain ⟨T, hT⟩ := Deep.choose_lt each
    refine ⟨(List.range n).map T, by simp, hl, by unfold maxLen at hm; omega, fun h => (by cases h), fun hn => ?_, fun t ht => ?_⟩
    · obtain ⟨b, off, spot⟩ := x
      have h0 := (hT 0 (by omega)).1.1
      have hspot : spot = none := by simpa [Addr.add] using World.cell?_spot h0
      subst hspot
      have hbl : b < W.heap.size := World.block_lt_of_cell? W _ (by simpa [Addr.add] using h0)
      refine ⟨b, off, rfl, hbl, fun i t ht => ?_⟩
      have hi : i < n := by have := (List.getElem?_eq_some_iff.1 ht).1; simpa using this
      have hti : t = T i := by rw [List.getElem?_map, List.getElem?_range hi] at ht; simpa using ht.symm
      subst hti
      obtain ⟨g0, g1, g2⟩ := (hT i (by omega)).1
      rw [Addr.add_lit] at g0 g1 g2
      rw [Addr.add_lit] at g1 g2
      exact ⟨g0, g1, g2⟩
    · simp at ht
      obtain ⟨i, hi, rfl⟩ := ht
      exact (hT i (by omega)).2

theorem open_dot {r : Reach} {b0 : Nat} {v : Value} {d : DataW H} {p : List MemPlace} (hv : Value.okWide Try.prog W r b0 24 v) (h : DataW.Trod enc Try.prog W 0 (fun _ => true) true 24 v d p) : ∃ x y : Int, v = .agg #[.int .i64 x, .int .i64 y] ∧ InI x ∧ InI y := by
  obtain ⟨c0, c1, y0, y1, m, rfl, _, _, hy0, hy1⟩ := open_agg2 Try.underlying24 (by kernel_rfl) cells24 hv h
  obtain ⟨a, e0, _, wa⟩ := DataW.trod_int Try.underlying3 hy0
  obtain ⟨b, e1, _, wb⟩ := DataW.trod_int Try.underlying3 hy1
  simp at e0 e1
  subst e0 e1
  exact ⟨a, b, rfl, wf_bounds wa, wf_bounds wb⟩

end
end Go.Proofs.Ytlmngdcifappoaa
