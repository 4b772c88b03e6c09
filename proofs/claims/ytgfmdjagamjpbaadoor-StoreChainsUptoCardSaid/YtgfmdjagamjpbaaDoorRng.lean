/- the digests of a list, yielded one by one -/
import Derived.Test.YtgfmdjagamjpbaaDoorPut
import Derived.RangeFuncFrom
import Derived.RangeFuncBox
import Derived.RangeFuncLeaves
import Derived.RangeFuncBound
import Derived.RangeFuncCalls
import Derived.Shelf.Abstract
import Derived.OwnWalkIn
import Derived.TacticsInMore
import Derived.LoopNIn
import Derived.LoopIn
namespace Go
variable {P : Program} {F : Fence} {n : Nat}
theorem wpListIn_load_mid {ops : Array Oper} {rest : List Oper} {op : Oper} {a : Act} {w : World} {Q : Exit → Act → World → Prop} (hgd : op.guard = none) (ty : TypeId) (x : Operand) (ho : op.op = .load ty x)
    (b o : Nat) (hx : a.eval x = .pointer (some ⟨b, o, none⟩)) (cs : List Value) (d : TypeDesc) (hc : w.rangeAt b o cs)
    (hu : P.underlying ty = some d) (hd : d.isRow = true) (hi : (P.info? ty).map (·.size) = some cs.length)
    (h : wpListIn F n P ops Q rest (a.put op.dst (.agg cs.toArray)) w) : wpListIn F n P ops Q (op :: rest) a w := by
  refine wpListIn_plain hgd fun K hK' => ?_
  unfold Oper.wpIn
  refine ⟨?_, ?_⟩
  · simp [Oper.about, ho]
  · rw [Oper.semAt_plain F _ _ (by rw [ho]; intro c hc'; cases hc')]
    unfold execOp
    simp only [ho, hx, Instr.loadAt, Instr.sureAddr, Sem.run_bind, Sem.run_pure, Result.andThen_ok, run_loadVar_mid w b o ty cs d hc hu hd hi]
    exact hK' _ _ h
theorem wpListIn_store_mid {ops : Array Oper} {rest : List Oper} {op : Oper} {a : Act} {w : World} {Q : Exit → Act → World → Prop} (hgd : op.guard = none) (ty : TypeId) (x y : Operand) (ho : op.op = .store ty x y)
    (b o : Nat) (cells : Array Value) (hx : a.eval x = .pointer (some ⟨b, o, none⟩)) (hy : a.eval y = .agg cells)
    (ht : w.there b o cells.size) (hi : (P.info? ty).map (·.size) = some cells.size) (h1 : cells.all (·.oneCell') = true)
    (h : wpListIn F n P ops Q rest (a.put op.dst undef) (w.setCells b o cells.toList)) : wpListIn F n P ops Q (op :: rest) a w := by
  refine wpListIn_plain hgd fun K hK' => ?_
  unfold Oper.wpIn
  refine ⟨?_, ?_⟩
  · simp [Oper.about, ho]
  · rw [Oper.semAt_plain F _ _ (by rw [ho]; intro c hc'; cases hc')]
    unfold execOp
    simp only [ho, hx, hy, Instr.storeAt, Instr.sureAddr, Sem.run_bind, Sem.run_pure, Result.andThen_ok, run_storeVar_mid w b o ty cells ht hi h1]
    exact hK' _ _ h
end Go
namespace Go.Proofs.YtgfmdjagamjpbaaDoor
open Go.RowKit Go.Mem Go.Shelf
open Sto (Ent)

attribute [local go_sem] Oper.semAt_some

/-- a digest as a function, and back. -/
def fD (d : List Nat) : Nat → Nat := fun i => d.getD i 0
def rD (f : Nat → Nat) : List Nat := (List.range 32).map f
theorem rD_fD {d : List Nat} (h : d.length = 32) : rD (fD d) = d := (as_range h).symm
theorem rD_length (f : Nat → Nat) : (rD f).length = 32 := by simp [rD]

set_option maxRecDepth 20000 in
set_option maxHeartbeats 4000000 in
theorem digIter_in (l Bs n c : Nat) (a : Option Addr) (K : Nat → Prop) (es : List Ent) (J Jx : List (Nat → Nat) → World → Prop) (w0 W : World)
    (hJa : AbidesFrom W.heap.size J)
    (hY : ∀ pre x W1, J pre W1 → pre.length < es.length → YieldAt Fence.wide 4 Tryd.prog l #[.agg (bv (rD x)).toArray] W1 fun e W' =>
      (e = .returned (.bool true) ∧ J (pre ++ [x]) W' ∧ Below w0.heap.size W1 W') ∨ (e = .returned (.bool false) ∧ Jx (pre ++ [x]) W'))
    (H : ES K w0 a n c es) (hW : Below w0.heap.size w0 W)
    (hBs : W.cell? ⟨Bs, 0, none⟩ = some (.slice a n c)) (h0 : J [] W) :
    CallsIn Fence.wide 5 Tryd.prog 56 #[.func (.yield l) #[] #[], .pointer (some ⟨Bs, 0, none⟩)] W fun e W' => (∃ v, e = .returned v) ∧
      ((∃ ys, ys = es.map (fun e => fD e.dig) ∧ J ys W') ∨ (∃ pre, pre <+: es.map (fun e => fD e.dig) ∧ Jx pre W')) := by
  have hlen := H.rs.len
  have hbd := H.bd
  have n63 : (n : Int) ≤ 100000 := by omega
  have H' := Lib.hid H
  clear H
  refine callsIn_of_wp Tryd.func56 rfl trivial ?_ rfl
  simp only [Tryd.ntmps56, List.size_toArray, List.length_cons, List.length_nil, Nat.reduceAdd, Nat.reduceSub, Array.replicate_succ, Array.replicate_zero, List.push_toArray, List.append_toArray, List.nil_append, List.cons_append]
  gi_wp2_with fail
  gi_loopw [7] (fun i wr => ∃ k : Nat, k ≤ n ∧ i = .int .i64 k ∧ J ((es.take k).map (fun e => fD e.dig)) wr ∧ Hid (Below w0.heap.size w0 wr) ∧ W.heap.size ≤ wr.heap.size)
    (fun i _ => n - (intOf i).toNat)
  case atStart => exact ⟨0, Nat.zero_le _, rfl, h0, hW, Nat.le_refl _⟩
  case round =>
    obtain ⟨k, hk, rfl, hJs, hnx, hsz⟩ := hrel
    by_cases hlt : k < n
    · have hkl : k < es.length := by omega
      have he : es[k]? = some es[k] := List.getElem?_eq_getElem hkl
      have htk : (es.take (k + 1)).map (fun e => fD e.dig) = (es.take k).map (fun e => fD e.dig) ++ [fD es[k].dig] := by rw [List.take_succ_eq_append_getElem hkl, List.map_append]; rfl
      have hpl : ((es.take k).map (fun e => fD e.dig)).length < es.length := by simp; omega
      generalize es[k] = e at *
      obtain ⟨b, off, r, rfl, hbl, _, ⟨ho, da, dn, dc, er, hbk⟩, hrl, hrg⟩ := (H'.out.below hnx.out).rs.get he
      obtain ⟨W2, hP⟩ := put_row (ty := 48) (Blk.new wr 48 (entC ⟨0, List.replicate 32 0, [], false⟩ none 0 0)) (x := r) (by rw [hrl]; rfl) (by rw [hrl]; exact sizeE) (by rw [er]; exact entC_one _ _ _ _)
      have hE2 : EntB W2 wr.heap.size e da dn dc := by
        have := hP.blk
        rw [er] at this
        exact EntB.of this ho.dig
      have hgw : wr.grownBy W2 none := ⟨hP.grown.os, hP.grown.tape, hP.grown.output, Nat.le_trans (by simp) hP.grown.size, fun q hq _ => (hP.grown.block q (by simp; omega) (fun e => by cases e; omega)).trans (Below.heap_alloc wr _ q hq)⟩
      have hJ1 : J ((es.take k).map (fun e => fD e.dig)) W2 := hJa _ wr _ none hJs hgw (fun r e => by cases e)
      have hn2 := Lib.hid (hnx.out.grown hgw hnx.out.size (fun _ e => by cases e))
      have hs2 : W.heap.size ≤ W2.heap.size := Nat.le_trans hsz hgw.size
      have hri : Hid ((Tryd.prog.info? 48).map (·.size) = some r.length) := by show _ = _; rw [hrl]; exact sizeE
      have hdi : Hid ((Tryd.prog.info? 35).map (·.size) = some (bv e.dig).length) := by show _ = _; rw [bv_length, ho.dig]; exact size35
      have hP' := Lib.hid hP; have hrg' := Lib.hid hrg
      have hdr := Lib.hid hE2.dig
      have hY1 := hY _ (fD e.dig) _ hJ1 hpl
      rw [rD_fD ho.dig] at hY1
      obtain ⟨fn, tmps, assign, body, hy, hR⟩ := hY1
      have htk' := Lib.hid htk
      have hR' := Lib.hid hR
      have k0 : (0 : Int) ≤ (k : Int) := by omega
      have k1 : (k : Int) < (n : Int) := by omega
      clear htk hkl hY hJs hJ1 hP hrg hE2 hR hgw hnx er hbk hbl ho he hrl
      gi_wp2_with (first
                | (refine wpListIn_load_mid (by rfl) 48 (.tmp 9) (by rfl) b (off + k * 35) (by rfl) r _ hrg'.out Tryd.underlying48 (by rfl) hri.out ?_)
                | (refine wpListIn_store_mid (by rfl) 48 (.tmp 4) (.tmp 10) (by rfl) wr.heap.size 0 r.toArray (by rfl) (by rfl) hP'.out.there hP'.out.info (by simpa using hP'.out.one) ?_
                   generalize hWq : World.setCells _ _ _ _ = Wa
                   obtain rfl : W2 = Wa := by rw [← hWq]; exact hP'.out.eq
                   clear hWq)
                | (refine wpListIn_load_mid (by rfl) 35 (.tmp 12) (by rfl) wr.heap.size 1 (by rfl) (bv e.dig) _ hdr.out Tryd.underlying35 (by rfl) hdi.out ?_))
      clear hP' hrg' hdr hri hdi hy
      refine hR'.out.mono ?_
      rintro e2 W3 (⟨rfl, hJ3, hk3⟩ | ⟨rfl, hJx3⟩)
      · have hn3 := Lib.hid (hn2.out.trans hk3)
        have hs3 := Nat.le_trans hs2 hk3.size
        gi_wp2_with fail
        go_roundw
        case rel => exact ⟨k + 1, by omega, by go_num, by rw [htk'.out]; exact hJ3, hn3, hs3⟩
        case measure => simp [intOf]; omega
      · gi_wp2_with fail
        refine bodyPost_ret (results_none rfl _ _ _) rfl ?_
        exact ⟨⟨_, rfl⟩, .inr ⟨_, ⟨(es.drop (k + 1)).map (fun e => fD e.dig), by rw [← htk'.out, ← List.map_append, List.take_append_drop]⟩, hJx3⟩⟩
    · obtain rfl : k = n := by omega
      rw [List.take_of_length_le (by omega)] at hJs
      gi_wp2_with fail
      go_end0
      exact ⟨⟨_, rfl⟩, .inl ⟨_, rfl, hJs⟩⟩

theorem digIter_stops (Bs n c : Nat) (a : Option Addr) (K : Nat → Prop) (es : List Ent) (w0 w : World) (hBs : Bs < w.heap.size) (H : ES K w0 a n c es) (hw : Below w0.heap.size w0 w)
    (hc : w.cell? ⟨Bs, 0, none⟩ = some (.slice a n c)) :
    SeqStopsK Fence.wide 5 Tryd.prog 56 #[.pointer (some ⟨Bs, 0, none⟩)] (fun x : Nat → Nat => #[Value.agg (bv (rD x)).toArray]) (Below w0.heap.size) (fun ys => ys = es.map (fun e => fD e.dig)) (fun pre => pre <+: es.map (fun e => fD e.dig)) es.length w := fun l J Jx W hW hJ _ hY h0 => by
  have hc' := (hW.cell (p := ⟨Bs, 0, none⟩) hBs).trans hc
  exact digIter_in l Bs n c a K es J Jx w0 W hJ hY H (hw.trans (hW.mono hw.size)) hc' h0

theorem digests_any (a : Option Addr) (n c : Nat) (w : World) :
    Calls Tryd.prog 31 #[.slice a n c] w fun e w' => e = .returned (.func (.func 56) #[] #[.pointer (some ⟨w.heap.size, 0, none⟩)]) ∧ w' = w.alloc (.cells #[.slice a n c] 31) := by
  go_enter Tryd.func31, Tryd.ntmps31
  go_wp2_with fail
  go_ret
  exact ⟨rfl, rfl⟩
end Go.Proofs.YtgfmdjagamjpbaaDoor
