/- opening the arguments of the laws of chapter 30; the tables out of the row's condition -/
import Derived.Test.YtgfmdjagamjpbaaDoorRows
import Derived.Test.YtgfmdjagamjpbaaDoorSnp
import Derived.ProofKit
import Derived.LaidMore
import Derived.OpenShut
import Derived.ShutString
import Derived.ChangeOld
import Derived.Below
import Derived.Carry
import Derived.Lib.SmallJoins
import Derived.Deep.Slices
import Derived.Deep.Strs
import Derived.Stop.Joined
namespace Go.Proofs.YtgfmdjagamjpbaaDoor
open Go.ChangeShapes Go.WideShapes Go.ChangeAt Go.RowKit Go.Joins Go.Mem

theorem own : ownKnob Tryd.prog.godebug = none := by kernel_rfl
theorem laidOut : laidOutB Tryd.prog = true := by kernel_rfl
theorem cellsU8 : Tryd.prog.cellsOf 5 = 1 := by kernel_rfl
theorem cellsU32 : Tryd.prog.cellsOf 125 = 1 := by kernel_rfl
theorem cellsInt : Tryd.prog.cellsOf 3 = 1 := by kernel_rfl
theorem cellsHead : Tryd.prog.cellsOf 39 = 37 := by kernel_rfl
theorem cellsSig : Tryd.prog.cellsOf 37 = 2 := by kernel_rfl
theorem wf_i64 {n : Int} (h : (Lit.int .i64 n).wf = true) : I64 n := by
  have := bounds_i64 h
  unfold I64; omega

section
variable {H : Type} {enc : TypeId × Value → H} {W : World} {spare held : Bool}

theorem one_at {cs : List Value} {i : Nat} {v : Value} (h : (cs.drop (i * 1)).take 1 = [v]) : cs[i]? = some v := by
  rw [Nat.mul_one] at h
  have := congrArg (·[0]?) h
  simpa using this

theorem open_digest {fuel : Nat} {cs : List Value} {x : DataW H × List MemPlace} (h : DataW.trod enc Tryd.prog W 0 (fun _ => true) true fuel 35 cs = some x) :
    ∃ D : List Nat, cs = bv D ∧ D.length = 32 ∧ ∀ u ∈ D, u < 256 := by
  obtain ⟨xs, m, _, _, hl, hn, he⟩ := DataW.trod_array Tryd.underlying35 h
  rw [cells35] at hl
  rw [cellsU8] at he
  have each : ∀ i, i < 32 → ∃ y : Nat, cs[i]? = some (.int .u8 (y : Int)) ∧ y < 256 := by
    intro i hi
    have h1 := he i hi
    rw [List.getElem?_eq_getElem (by omega)] at h1
    obtain ⟨a, e0, _, w0⟩ := DataW.trod_int Tryd.underlying5 h1
    have hb : 0 ≤ a ∧ a < 256 := by
      have h2 : IntKind.u8.min ≤ a ∧ a ≤ IntKind.u8.max := by simpa [Lit.wf] using w0
      have e1 : IntKind.u8.min = 0 := rfl
      have e2 : IntKind.u8.max = 255 := rfl
      omega
    exact ⟨a.toNat, by rw [one_at e0, Int.toNat_of_nonneg hb.1], by omega⟩
  obtain ⟨f, hf⟩ := Deep.choose_lt each
  refine ⟨(List.range 32).map f, ?_, by simp, fun u hu => ?_⟩
  · apply List.ext_getElem?
    intro i
    by_cases hi : i < 32
    · rw [(hf i hi).1]
      simp [bv, hi]
    · rw [List.getElem?_eq_none (by omega), List.getElem?_eq_none (by simp [bv]; omega)]
  · obtain ⟨i, hi, rfl⟩ := List.mem_map.1 hu
    exact (hf i (List.mem_range.1 hi)).2

theorem open_int1 {fuel : Nat} {cs : List Value} {x : DataW H × List MemPlace} (h : DataW.trod enc Tryd.prog W 0 (fun _ => true) true fuel 3 cs = some x) : ∃ a : Int, cs = [.int .i64 a] ∧ I64 a := by
  obtain ⟨a, e, _, w⟩ := DataW.trod_int Tryd.underlying3 h
  exact ⟨a, e, wf_i64 w⟩

theorem len_two : ∀ {l : List Value}, l.length = 2 → ∃ u v, l = [u, v]
  | [u, v], _ => ⟨u, v, rfl⟩
theorem drop_parts (cs : List Value) (i k j : Nat) (hj : i + k = j) : cs.drop i = (cs.drop i).take k ++ cs.drop j := by
  rw [← hj, ← List.drop_drop, List.take_append_drop]

theorem open_head {fuel : Nat} {cs : List Value} {x : DataW H × List MemPlace} (h : DataW.trod enc Tryd.prog W 0 (fun _ => true) true fuel 39 cs = some x) :
    ∃ (st fo no R S : Int) (D : List Nat), cs = headC st fo no D R S ∧ I64 st ∧ I64 fo ∧ I64 no ∧ I64 R ∧ I64 S ∧ D.length = 32 ∧ ∀ u ∈ D, u < 256 := by
  obtain ⟨xs, n, _, rfl, hl, hlen, hf⟩ := DataW.trod_struct Tryd.underlying39 h
  rw [cellsHead] at hl
  match xs, hlen with
  | [y0, y1, y2, y3, y4], _ =>
    have h0 : DataW.trod enc Tryd.prog W 0 (fun _ => true) true n 3 ((cs.drop 0).take (Tryd.prog.cellsOf 3)) = some y0 := hf 0 _ rfl
    rw [cellsInt] at h0
    have h1 : DataW.trod enc Tryd.prog W 0 (fun _ => true) true n 3 ((cs.drop 1).take (Tryd.prog.cellsOf 3)) = some y1 := hf 1 _ rfl
    rw [cellsInt] at h1
    have h2 : DataW.trod enc Tryd.prog W 0 (fun _ => true) true n 3 ((cs.drop 2).take (Tryd.prog.cellsOf 3)) = some y2 := hf 2 _ rfl
    rw [cellsInt] at h2
    have h3 : DataW.trod enc Tryd.prog W 0 (fun _ => true) true n 35 ((cs.drop 3).take (Tryd.prog.cellsOf 35)) = some y3 := hf 3 _ rfl
    rw [cells35] at h3
    have h4 : DataW.trod enc Tryd.prog W 0 (fun _ => true) true n 37 ((cs.drop 35).take (Tryd.prog.cellsOf 37)) = some y4 := hf 4 _ rfl
    rw [cellsSig] at h4
    obtain ⟨st, e0, i0⟩ := open_int1 h0
    obtain ⟨fo, e1, i1⟩ := open_int1 h1
    obtain ⟨no, e2, i2⟩ := open_int1 h2
    obtain ⟨D, e3, hD⟩ := open_digest h3
    obtain ⟨ys, n4, _, _, hl4, hlen4, hf4⟩ := DataW.trod_struct Tryd.underlying37 h4
    match ys, hlen4 with
    | [z0, z1], _ =>
      have g0 : DataW.trod enc Tryd.prog W 0 (fun _ => true) true n4 3 ((((cs.drop 35).take 2).drop 0).take (Tryd.prog.cellsOf 3)) = some z0 := hf4 0 _ rfl
      rw [cellsInt] at g0
      have g1 : DataW.trod enc Tryd.prog W 0 (fun _ => true) true n4 3 ((((cs.drop 35).take 2).drop 1).take (Tryd.prog.cellsOf 3)) = some z1 := hf4 1 _ rfl
      rw [cellsInt] at g1
      obtain ⟨R, e4, i4⟩ := open_int1 g0
      obtain ⟨S, e5, i5⟩ := open_int1 g1
      refine ⟨st, fo, no, R, S, D, ?_, i0, i1, i2, i4, i5, hD⟩
      have e45 : (cs.drop 35).take 2 = [.int .i64 R, .int .i64 S] := by
        clear h0 h1 h2 h3 h4 g0 g1 hf hf4 e0 e1 e2 e3
        rw [cellsSig] at hl4
        obtain ⟨u, v, huv⟩ := len_two hl4
        rw [huv] at e4 e5 ⊢
        simp at e4 e5
        rw [e4, e5]
      have q37 : cs.drop 37 = [] := List.drop_eq_nil_of_le (by omega)
      have q35 : cs.drop 35 = [.int .i64 R, .int .i64 S] := by rw [drop_parts cs 35 2 37 rfl, e45, q37]; rfl
      have q3 : cs.drop 3 = bv D ++ [.int .i64 R, .int .i64 S] := by rw [drop_parts cs 3 32 35 rfl, e3, q35]
      have q2 : cs.drop 2 = [.int .i64 no] ++ (bv D ++ [.int .i64 R, .int .i64 S]) := by rw [drop_parts cs 2 1 3 rfl, e2, q3]
      have q1 : cs.drop 1 = [.int .i64 fo] ++ ([.int .i64 no] ++ (bv D ++ [.int .i64 R, .int .i64 S])) := by rw [drop_parts cs 1 1 2 rfl, e1, q2]
      have q0 : cs.drop 0 = [.int .i64 st] ++ ([.int .i64 fo] ++ ([.int .i64 no] ++ (bv D ++ [.int .i64 R, .int .i64 S]))) := by rw [drop_parts cs 0 1 1 rfl, e0, q1]
      exact q0

theorem trod_u32s {t : TypeId} {k fuel : Nat} {l : List Nat} {cs : List Value} {p : List MemPlace} (ht : Tryd.prog.underlying t = some (.array k 125)) (hk : l.length = k)
    (h : DataW.trod enc Tryd.prog W 0 (fun _ => spare) held fuel t cs = some (.agg (l.map fun (x : Nat) => .lit (.int .u32 (x : Int))), p)) : ∀ (i : Nat) x, l[i]? = some x → cs[i]? = some (.int .u32 ((x : Nat) : Int)) := by
  obtain ⟨xs, m, _, hx, hl, hn, he⟩ := DataW.trod_array ht h
  rw [cellsU32] at he
  intro i x hi
  have hik := (List.getElem?_eq_some_iff.1 hi).1
  have h1 := he i (by omega)
  rw [List.getElem?_eq_getElem (by omega)] at h1
  obtain ⟨a, e0, e1, _⟩ := DataW.trod_int Tryd.underlying125 h1
  rw [one_at e0]
  simp only [Prod.mk.injEq, DataW.agg.injEq] at hx
  have h2 := congrArg (·[i]?) hx.1
  simp only [List.getElem?_map, hi, Option.map_some] at h2
  rw [List.getElem?_eq_getElem (by omega)] at h2
  simp only [Option.map_some, Option.some.injEq] at h2
  rw [e1] at h2
  simp only [DataW.lit.injEq, Lit.int.injEq, true_and] at h2
  rw [h2]
end

theorem gStart : Tryd.prog.globalNamed "chartroom/digest.start" = some 0 := by kernel_rfl
theorem gNums : Tryd.prog.globalNamed "chartroom/digest.numbers" = some 1 := by kernel_rfl
theorem datStart {H : Type} : (Rows.laid_chartroom_digest_start : DataW H) = .agg ((stv Sha.start).map fun (x : Nat) => .lit (.int .u32 (x : Int))) := rfl
theorem datNums {H : Type} : (Rows.laid_chartroom_digest_numbers : DataW H) = .agg (Sha.K.map fun (x : Nat) => .lit (.int .u32 (x : Int))) := rfl
abbrev laid2 {H : Type} : List (String × DataW H) := [("chartroom/digest.start", Rows.laid_chartroom_digest_start), ("chartroom/digest.numbers", Rows.laid_chartroom_digest_numbers)]

/-- The door's own heap meets the condition. -/
theorem door_met (os : Os) (args : Array Value) : laidMetH Tryd.prog laid2 ((World.doorLaid Tryd.prog 400 os).forCall (fun _ _ => 0) ⟨#[], args, []⟩).memory :=
  laidMetH_of_parts3 (fuel := 8) (laidMet_of_run' 8 (by kernel_rfl) (by kernel_rfl)) (by kernel_rfl) (by kernel_rfl)

theorem tabs_of_laid {W : World} (h : laidMetH Tryd.prog laid2 W) : Tabs W := by
  rw [MakeChecks.laidMetH_plain _ _ _ (by kernel_rfl)] at h
  obtain ⟨ps, ⟨g0, t0, cs0, f0, p0, q0, hg0, ht0, hv0, hd0, ⟨g1, t1, cs1, f1, p1, q1, hg1, ht1, hv1, hd1, _, _⟩, _⟩, _, _⟩ := h
  obtain rfl := Option.some.inj (gStart.symm.trans hg0)
  obtain rfl := Option.some.inj (gNums.symm.trans hg1)
  obtain rfl := Option.some.inj ((show (Tryd.prog.globals[0]?).map (·.type) = some 126 by kernel_rfl).symm.trans ht0)
  obtain rfl := Option.some.inj ((show (Tryd.prog.globals[1]?).map (·.type) = some 143 by kernel_rfl).symm.trans ht1)
  rw [datStart] at hd0
  rw [datNums] at hd1
  have s0 := trod_u32s Tryd.underlying126 rfl hd0
  have s1 := trod_u32s Tryd.underlying143 rfl hd1
  have c1 : ∀ (i : Nat) x, Sha.K[i]? = some x → W.cell? ⟨1, i, none⟩ = some (.int .u32 ((x : Nat) : Int)) := fun i x hx => by
    rw [World.var?_cell hg1 hv1 i]
    have := s1 i x hx
    simpa using this
  refine ⟨⟨?_, c1⟩, fun i x hx => ?_⟩
  · exact World.block_lt_of_cell? W _ (c1 0 _ rfl)
  · rw [World.var?_cell hg0 hv0 i]
    have := s0 i x hx
    simpa using this
end Go.Proofs.YtgfmdjagamjpbaaDoor
