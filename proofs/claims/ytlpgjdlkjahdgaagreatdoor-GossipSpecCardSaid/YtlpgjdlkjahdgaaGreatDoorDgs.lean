/- rows of digests that a call builds -/
import Derived.Test.YtlpgjdlkjahdgaaGreatDoorBu2
import Derived.KernelRfl
import Derived.Laws.ResultCell
import Derived.Deep.RegionHeld3
import Derived.Deep.MidRow
namespace Go
variable {P : Program}
theorem wpList_buildSlice_run {ops : Array Oper} {rest : List Oper} {op : Oper} {a : Act} {w w' : World} {Q : Exit → Act → World → Prop} {v : Value} (hgd : op.guard = none) (t : TypeId) (k : Nat) (parts : Array (Nat × Operand)) (ho : op.op = .buildSlice t k parts) (ps : Array (Nat × Value)) (hp : (parts.map fun (i, x) => (i, a.eval x)) = ps) (hr : (Instr.buildSlice t k ps).run P w = .ok v w')
    (h : wpList P ops Q rest (a.put op.dst v) w') : wpList P ops Q (op :: rest) a w :=
  wpList_plain hgd fun _ hK => by
    unfold Oper.wp execOp
    simp only [ho, hp, Sem.run_bind, hr, Result.andThen_ok, Sem.run_pure]
    exact hK _ _ h
end Go
namespace Go.Mem
open Go.RowKit
variable {P : Program}
theorem load_blk {W : World} {g : Nat} {t ty : TypeId} {r : List Value} {d : TypeDesc} (hB : Blk W g t r) (hu : P.underlying ty = some d) (hd : d.isRow = true) (hi : (P.info? ty).map (·.size) = some r.length) :
    (loadVar ty ⟨g, 0, none⟩).run P W = .ok (.agg r.toArray) W := run_loadVar_mid W g 0 ty r d hB.range hu hd hi

theorem ret_cell {fn : Func} {p : Tmp} {ty t : TypeId} (h : fn.results = #[.cell p ty]) {W : World} {g : Nat} {r : List Value} {d : TypeDesc} (hB : Blk W g t r) (hu : P.underlying ty = some d) (hd : d.isRow = true) (hi : (P.info? ty).map (·.size) = some r.length)
    {a : Act} (hp : a.tmps.getD p undef = .pointer (some ⟨g, 0, none⟩)) (hdf : a.defers = []) {Post : Ending → World → Prop} (hP : Post (.returned (.agg r.toArray)) W) : bodyPost P fn Post .ret a W := by
  refine bodyPost_ret (v := .agg r.toArray) ?_ hdf hP
  have hp' : a.tmps[p]?.getD undef = .pointer (some ⟨g, 0, none⟩) := by simpa using hp
  simp [results, h, hp', asAddr, load_blk hB hu hd hi]

theorem ret_cell_tmp {fn : Func} {p u : Tmp} {ty t : TypeId} (h : fn.results = #[.cell p ty, .tmp u]) {W : World} {g : Nat} {r : List Value} {d : TypeDesc} {v : Value} (hB : Blk W g t r) (hu : P.underlying ty = some d) (hd : d.isRow = true) (hi : (P.info? ty).map (·.size) = some r.length)
    {a : Act} (hp : a.tmps.getD p undef = .pointer (some ⟨g, 0, none⟩)) (hq : a.tmps.getD u undef = v) (hdf : a.defers = []) {Post : Ending → World → Prop} (hP : Post (.returned (.tuple #[.agg r.toArray, v])) W) : bodyPost P fn Post .ret a W := by
  refine bodyPost_ret (v := .tuple #[.agg r.toArray, v]) ?_ hdf hP
  rw [results_cell_tmp h, hp, hq]
  simp only [asAddr, Sem.run_pure, Result.andThen_ok, load_blk hB hu hd hi]

theorem results_cell_cell_tmp {fn : Func} {p q u : Tmp} {ty ty2 : TypeId} (h : fn.results = #[.cell p ty, .cell q ty2, .tmp u]) (tmps : Array Value) (w : World) :
    (results fn tmps).run P w =
      ((asAddr (tmps.getD p undef)).run P w).andThen fun a w₁ => ((loadVar ty a).run P w₁).andThen fun x w₂ => ((asAddr (tmps.getD q undef)).run P w₂).andThen fun b w₃ => ((loadVar ty2 b).run P w₃).andThen fun y w₄ => .ok (.tuple #[x, y, tmps.getD u undef]) w₄ := by
  simp only [results, h]
  simp [Sem.run_bind, Result.andThen]
theorem ret_cell_cell_tmp {fn : Func} {p q u : Tmp} {ty ty2 t t2 : TypeId} (h : fn.results = #[.cell p ty, .cell q ty2, .tmp u]) {W : World} {g g2 : Nat} {r r2 : List Value} {d d2 : TypeDesc} {v : Value}
    (hB : Blk W g t r) (hu : P.underlying ty = some d) (hd : d.isRow = true) (hi : (P.info? ty).map (·.size) = some r.length)
    (hB2 : Blk W g2 t2 r2) (hu2 : P.underlying ty2 = some d2) (hd2 : d2.isRow = true) (hi2 : (P.info? ty2).map (·.size) = some r2.length)
    {a : Act} (hp : a.tmps.getD p undef = .pointer (some ⟨g, 0, none⟩)) (hp2 : a.tmps.getD q undef = .pointer (some ⟨g2, 0, none⟩)) (hq : a.tmps.getD u undef = v) (hdf : a.defers = []) {Post : Ending → World → Prop} (hP : Post (.returned (.tuple #[.agg r.toArray, .agg r2.toArray, v])) W) : bodyPost P fn Post .ret a W := by
  refine bodyPost_ret (v := .tuple #[.agg r.toArray, .agg r2.toArray, v]) ?_ hdf hP
  rw [results_cell_cell_tmp h, hp, hp2, hq]
  simp only [asAddr, Sem.run_pure, Result.andThen_ok, load_blk hB hu hd hi, load_blk hB2 hu2 hd2 hi2]
end Go.Mem
namespace Go.Proofs.YtlpgjdlkjahdgaaGreatDoor
open Go.RowKit Go.Mem

section
variable {P : Program} {ops : Array Oper} {S : World → Prop} {o : Oper} {a : Act} {v : Value}
theorem hold_move (hw : Region.wanted o (yielded ops a.tmps) = true) (x : Operand) (h : o.op = .move x) : YieldsIf P ops S o (a.eval x) a := .inl ⟨hw, fun w _ => by unfold execOp; simp only [h]; simp⟩
theorem hold_build (hw : Region.wanted o (yielded ops a.tmps) = true) (t : TypeId) (parts : Array (Nat × Operand)) (h : o.op = .build t parts) (ps : Array (Nat × Value)) (hp : (parts.map fun (i, x) => (i, a.eval x)) = ps) (hr : ∀ W, (Instr.build t ps).run P W = .ok v W) : YieldsIf P ops S o v a :=
  .inl ⟨hw, fun w _ => by unfold execOp; simp only [h, hp, Sem.run_bind, hr, Result.andThen_ok, Sem.run_pure]⟩
theorem wp_buildSlice_run {w w' : World} {K : Act → World → Prop} {Q : Exit → Act → World → Prop} (t : TypeId) (n : Nat) (parts : Array (Nat × Operand)) (h : o.op = .buildSlice t n parts) (ps : Array (Nat × Value)) (hp : (parts.map fun (i, x) => (i, a.eval x)) = ps) (hr : (Instr.buildSlice t n ps).run P w = .ok v w') (hK : K (a.put o.dst v) w') : o.wp P a w K Q := by
  unfold Oper.wp execOp
  simp only [h, hp, Sem.run_bind, hr, Result.andThen_ok, Sem.run_pure]
  exact hK
end
structure PutR (ty : TypeId) (W W9 : World) (tb : Nat) (t : TypeId) (RES : List Value) : Prop where
  there : W.there tb 0 RES.toArray.size
  info : (Tryz.prog.info? ty).map (·.size) = some RES.toArray.size
  one : ∀ u ∈ RES, u.oneCell' = true
  eq : W9 = W.setCells tb 0 RES
  blk : Blk W9 tb t RES
  grown : W.grownBy W9 (some tb)
theorem put_row {ty t : TypeId} {W : World} {tb : Nat} {x y : List Value} (hD : Blk W tb t y) (hy : x.length = y.length) (hi : (Tryz.prog.info? ty).map (·.size) = some x.length) (h1 : ∀ u ∈ x, u.oneCell' = true) : ∃ W9, PutR ty W W9 tb t x := by
  obtain ⟨_, h2, h3⟩ := run_store_blk (P := Tryz.prog) (ty := ty) hD (vs := x) hy hi h1
  refine ⟨_, ?_, by rw [List.size_toArray]; exact hi, h1, rfl, h2, h3⟩
  rw [List.size_toArray, hy]
  exact hD.there
theorem as_range {d : List Nat} (h : d.length = 32) : d = (List.range 32).map fun i => d.getD i 0 := by
  apply List.ext_getElem?
  intro i
  rw [List.getElem?_map]
  by_cases hi : i < 32
  · rw [List.getElem?_range hi, Option.map_some, List.getD_eq_getElem?_getD, List.getElem?_eq_getElem (by omega)]
    rfl
  · rw [List.getElem?_eq_none (by omega), List.getElem?_eq_none (by simp; omega)]; rfl
def fD (d : List Nat) : Nat → Nat := fun i => d.getD i 0
def rD (f : Nat → Nat) : List Nat := (List.range 32).map f
theorem rD_fD {d : List Nat} (h : d.length = 32) : rD (fD d) = d := (as_range h).symm
set_option maxRecDepth 20000 in
theorem digs_row (f : Nat → Nat) (W : World) :
    (Instr.buildSlice 58 1 #[(0, .agg (bv (rD f)).toArray)]).run Tryz.prog W = .ok (.slice (some ⟨W.heap.size, 0, none⟩) 1 1) (W.alloc (.cells (bv (rD f)).toArray 43)) := by
  unfold rD
  kernel_rfl
set_option maxRecDepth 20000 in
theorem digs_row2 (f g : Nat → Nat) (W : World) :
    (Instr.buildSlice 58 2 #[(0, .agg (bv (rD f)).toArray), (1, .agg (bv (rD g)).toArray)]).run Tryz.prog W = .ok (.slice (some ⟨W.heap.size, 0, none⟩) 2 2) (W.alloc (.cells ([rD f, rD g].map bv).flatten.toArray 43)) := by
  unfold rD
  kernel_rfl
theorem dig_slice1 {d : List Nat} (hd : d.length = 32) (W : World) : (Instr.buildSlice 58 1 #[(0, .agg (bv d).toArray)]).run Tryz.prog W = .ok (.slice (some ⟨W.heap.size, 0, none⟩) 1 1) (W.alloc (.cells (bv d).toArray 43)) := by
  have h := digs_row (fD d) W
  rwa [rD_fD hd] at h
theorem dig_slice2 {d d2 : List Nat} (hd : d.length = 32) (hd2 : d2.length = 32) (W : World) : (Instr.buildSlice 58 2 #[(0, .agg (bv d).toArray), (1, .agg (bv d2).toArray)]).run Tryz.prog W = .ok (.slice (some ⟨W.heap.size, 0, none⟩) 2 2) (W.alloc (.cells ([d, d2].map bv).flatten.toArray 43)) := by
  have h := digs_row2 (fD d) (fD d2) W
  rwa [rD_fD hd, rD_fD hd2] at h
end Go.Proofs.YtlpgjdlkjahdgaaGreatDoor
