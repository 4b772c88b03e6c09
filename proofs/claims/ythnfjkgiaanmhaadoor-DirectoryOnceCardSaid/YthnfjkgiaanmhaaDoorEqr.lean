/- digests and roots compared -/
import Derived.Test.YthnfjkgiaanmhaaDoorRwR
import Derived.DeepKeys4
namespace Go.Proofs.YthnfjkgiaanmhaaDoor
open Go.RowKit Go.Mem
open Go.Dr (Lst Rt)

theorem mapM_some {α β : Type} {f : α → Option β} {g : α → β} : ∀ {l : List α}, (∀ x ∈ l, f x = some (g x)) → l.mapM f = some (l.map g)
  | [], _ => by simp
  | x :: r, h => by
    rw [List.mapM_cons, h x (by simp), mapM_some (fun y hy => h y (by simp [hy]))]
    rfl
theorem flat_range (g : Nat → Lit) (d : List Nat) : ∀ n, n ≤ d.length → ((List.range n).map fun i => [g (d.getD i 0)]).flatten = (d.take n).map g
  | 0, _ => by simp
  | n + 1, h => by
    rw [List.range_succ, List.map_append, List.flatten_append, flat_range g d n (by omega), List.take_add_one, List.map_append]
    have hn : n < d.length := by omega
    simp [List.getD, List.getElem?_eq_getElem hn]

theorem cells35 : Tryd.prog.cellsOf 23 = 32 := by kernel_rfl
theorem cells5 : Tryd.prog.cellsOf 5 = 1 := by kernel_rfl
theorem under35 : Tryd.prog.underlying 23 = some (.array 32 5) := Tryd.underlying23
theorem keyT35 : Tryd.prog.keyTypeAt 2 23 = true := by kernel_rfl
/-- a digest's letters. -/
def digL (d : List Nat) : List Lit := d.map fun (x : Nat) => Lit.int .u8 (x : Int)
theorem digL_inj {x y : List Nat} (h : digL x = digL y) : x = y := by
  refine (List.map_inj_right ?_).1 h
  intro a b hab
  simp only [Lit.int.injEq, true_and] at hab
  omega
def Dig (d : List Nat) : Prop := d.length = 32 ∧ ∀ u ∈ d, u < 256

theorem u8_wf : ∀ x : Nat, x < 256 → (Lit.int .u8 (x : Int)).wf = true := by decide +kernel

theorem keyLits_dig (D : Nat) {d : List Nat} (h : Dig d) : Tryd.prog.keyLits (D + 2) 23 (bv d) = some (digL d) := by
  unfold Program.keyLits
  rw [under35]
  simp only [cells35, cells5, bv_length, h.1, if_true]
  rw [mapM_some (g := fun i => [Lit.int .u8 ((d.getD i 0 : Nat) : Int)])]
  · have := flat_range (fun (x : Nat) => Lit.int .u8 (x : Int)) d 32 (by rw [h.1]; exact Nat.le_refl _)
    rw [Option.map_some, this, List.take_of_length_le (by rw [h.1]; exact Nat.le_refl _)]
    rfl
  · intro i hi
    have hil : i < d.length := by rw [h.1]; simpa using hi
    have e1 : ((bv d).drop (i * 1)).take 1 = [.int .u8 ((d.getD i 0 : Nat) : Int)] := by
      rw [Nat.mul_one, List.drop_eq_getElem_cons (by rw [bv_length]; exact hil), List.take_succ_cons, List.take_zero]
      simp [bv, List.getD, List.getElem?_eq_getElem hil]
    rw [e1]
    unfold Program.keyLits
    rw [Tryd.underlying5]
    have hx : d.getD i 0 < 256 := by
      rw [List.getD, List.getElem?_eq_getElem hil]
      exact h.2 _ (List.getElem_mem hil)
    generalize d.getD i 0 = x at *
    have hw : (Lit.int .u8 (x : Int)).wf = true := u8_wf x hx
    simp [hw]

theorem formed_dig {d : List Nat} (h : Dig d) : (Value.agg (bv d).toArray).formed Tryd.prog 23 = true := by
  simp [Value.formed, bv_length, h.1, cells35]

/-- digests compared. -/
theorem eq_dig {x y : List Nat} (hx : Dig x) (hy : Dig y) (w : World) : (Op.equalIn 10000 23 (.agg (bv x).toArray) (.agg (bv y).toArray)).run Tryd.prog w = .ok (decide (x = y)) w := by
  obtain ⟨r, hr, hiff⟩ := run_equalIn_deep (P := Tryd.prog) 9998 2 23 keyT35 w 2 2 (.agg (bv x).toArray) (.agg (bv y).toArray) (digL x) (digL y) (formed_dig hx) (formed_dig hy)
    (by simpa [Value.cells] using keyLits_dig 0 hx) (by simpa [Value.cells] using keyLits_dig 0 hy)
  have e : r = decide (x = y) := by
    rw [Bool.eq_iff_iff, hiff, decide_eq_true_iff]
    exact ⟨digL_inj, fun e => by rw [e]⟩
  rw [← e]
  exact hr

theorem cellsSg : Tryd.prog.cellsOf 44 = 2 := by kernel_rfl
theorem cellsI : Tryd.prog.cellsOf 3 = 1 := by kernel_rfl
theorem i64_wf {x : Int} (h : I64 x) : (Lit.int .i64 x).wf = true := by
  have e1 : IntKind.i64.min = -9223372036854775808 := rfl
  have e2 : IntKind.i64.max = 9223372036854775807 := rfl
  unfold I64 at h
  simp only [Lit.wf, Bool.and_eq_true, decide_eq_true_eq]
  omega
theorem keyLits_int (D : Nat) {x : Int} (h : I64 x) : Tryd.prog.keyLits (D + 1) 3 [.int .i64 x] = some [.int .i64 x] := by
  unfold Program.keyLits
  rw [Tryd.underlying3]
  simp [i64_wf h]
theorem keyLits_sig (D : Nat) {r s : Int} (hr : I64 r) (hs : I64 s) : Tryd.prog.keyLits (D + 2) 44 [.int .i64 r, .int .i64 s] = some [.int .i64 r, .int .i64 s] := by
  unfold Program.keyLits
  rw [Tryd.underlying44]
  simp only [cellsSg, List.length_cons, List.length_nil]
  simp [cellsI, keyLits_int D hr, keyLits_int D hs]

theorem cellsRt : Tryd.prog.cellsOf 46 = 67 := by kernel_rfl
theorem keyTR : Tryd.prog.keyTypeAt 3 46 = true := by kernel_rfl
def litR (x : Rt) : List Lit := [.int .i64 x.no] ++ (digL x.dig ++ (digL x.prev ++ [.int .i64 x.r, .int .i64 x.s]))
theorem rC_parts {x : Rt} (ok : OkQ x) : ((rC x).drop 0).take 1 = [.int .i64 x.no] ∧ ((rC x).drop 1).take 32 = bv x.dig ∧ ((rC x).drop 33).take 32 = bv x.prev ∧ ((rC x).drop 65).take 2 = [.int .i64 x.r, .int .i64 x.s] := by
  have hl : (bv x.dig).length = 32 := by rw [bv_length, ok.dig]
  have hl2 : (bv x.prev).length = 32 := by rw [bv_length, ok.prev]
  unfold rC
  refine ⟨rfl, ?_, ?_, ?_⟩
  · show List.take 32 (bv x.dig ++ (bv x.prev ++ [.int .i64 x.r, .int .i64 x.s])) = _
    rw [List.take_append_of_le_length (by omega), List.take_of_length_le (by omega)]
  · show List.take 32 (List.drop 32 (bv x.dig ++ (bv x.prev ++ [.int .i64 x.r, .int .i64 x.s]))) = _
    rw [List.drop_append_of_le_length (by omega), List.drop_of_length_le (by omega), List.nil_append, List.take_append_of_le_length (by omega), List.take_of_length_le (by omega)]
  · show List.take 2 (List.drop 64 (bv x.dig ++ (bv x.prev ++ [.int .i64 x.r, .int .i64 x.s]))) = _
    rw [← List.append_assoc, List.drop_left' (by rw [List.length_append]; omega)]
    rfl
theorem keyLits_rt (D : Nat) {x : Rt} (ok : OkQ x) : Tryd.prog.keyLits (D + 3) 46 (rC x) = some (litR x) := by
  obtain ⟨p0, p1, p2, p3⟩ := rC_parts ok
  have q0 := keyLits_int (D + 1) ok.no
  have q1 := keyLits_dig D ⟨ok.dig, ok.digl⟩
  have q2 := keyLits_dig D ⟨ok.prev, ok.prevl⟩
  have q3 := keyLits_sig D ok.r ok.s
  unfold Program.keyLits
  rw [Tryd.underlying46]
  have hlen : (rC x).length = Tryd.prog.cellsOf 46 := by rw [rC_length ok, cellsRt]
  obtain ⟨cs, hcs⟩ : ∃ cs, cs = rC x := ⟨_, rfl⟩
  rw [← hcs] at p0 p1 p2 p3 hlen ⊢
  match cs, hlen with
  | [], hl => rw [cellsRt] at hl; cases hl
  | c :: r, hl =>
    simp only [hl]
    rw [if_pos ⟨trivial, by kernel_rfl⟩]
    simp only [List.mapM_cons, List.mapM_nil, cellsI, cells35, cellsSg, p0, p1, p2, p3, q0, q1, q2, q3]
    rfl
theorem litR_inj {a b : Rt} (ha : OkQ a) (hb : OkQ b) (e : litR a = litR b) : a = b := by
  unfold litR at e
  simp only [List.cons_append, List.nil_append, List.cons.injEq, Lit.int.injEq, true_and] at e
  obtain ⟨e0, e1⟩ := e
  have hl : (digL a.dig).length = (digL b.dig).length := by simp [digL, ha.dig, hb.dig]
  have hl2 : (digL a.prev).length = (digL b.prev).length := by simp [digL, ha.prev, hb.prev]
  obtain ⟨e2, e3⟩ := List.append_inj e1 hl
  obtain ⟨e4, e5⟩ := List.append_inj e3 hl2
  simp only [List.cons.injEq, Lit.int.injEq, true_and, and_true] at e5
  exact Go.Dr.eqR_iff.1 (by unfold Go.Dr.eqR; exact decide_eq_true ⟨e0, digL_inj e2, digL_inj e4, e5.1, e5.2⟩)
theorem formed_rt {x : Rt} (ok : OkQ x) : (Value.agg (rC x).toArray).formed Tryd.prog 46 = true := by
  simp [Value.formed, rC_length ok, cellsRt]
/-- roots compared. -/
theorem eq_root {a b : Rt} (ha : OkQ a) (hb : OkQ b) (w : World) : (Op.equalIn 10000 46 (.agg (rC a).toArray) (.agg (rC b).toArray)).run Tryd.prog w = .ok (Go.Dr.eqR a b) w := by
  obtain ⟨r, hr, hiff⟩ := run_equalIn_deep (P := Tryd.prog) 9997 3 46 keyTR w 3 3 (.agg (rC a).toArray) (.agg (rC b).toArray) (litR a) (litR b) (formed_rt ha) (formed_rt hb)
    (by simpa [Value.cells] using keyLits_rt 0 ha) (by simpa [Value.cells] using keyLits_rt 0 hb)
  have e : r = Go.Dr.eqR a b := by
    rw [Bool.eq_iff_iff, hiff, Go.Dr.eqR_iff]
    exact ⟨litR_inj ha hb, fun e => by rw [e]⟩
  rw [← e]
  exact hr
end Go.Proofs.YthnfjkgiaanmhaaDoor
