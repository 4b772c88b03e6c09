/- the digests of a list, yielded one by one slices.AppendSeq, slices.Collect at digests owned rows of digests -/
import Derived.Test.YtnonfdcbnkdmcaaGreatDoorStA
import Derived.RangeFuncFrom
import Derived.RangeFuncBox
import Derived.RangeFuncLeaves
import Derived.RangeFuncBound
import Derived.RangeFuncCalls
import Derived.Shelf.Abstract
import Derived.OwnWalkIn
import Derived.TacticsInMore
import Derived.LoopNIn
import Derived.LoopIn
import Derived.RangeFuncNested
namespace Go
variable {P : Program} {F : Fence} {n : Nat}
theorem wpListIn_load_mid {ops : Array Oper} {rest : List Oper} {op : Oper} {a : Act} {w : World} {Q : Exit → Act → World → Prop} (hgd : op.guard = none) (ty : TypeId) (x : Operand) (ho : op.op = .load ty x)
 (b o : Nat) (hx : a.eval x = .pointer (some ⟨b, o, none⟩)) (cs : List Value) (d : TypeDesc) (hc : w.rangeAt b o cs)
 (hu : P.underlying ty = some d) (hd : d.isRow = true) (hi : (P.info? ty).map (·.size) = some cs.length)
 (h : wpListIn F n P ops Q rest (a.put op.dst (.agg cs.toArray)) w) : wpListIn F n P ops Q (op :: rest) a w := by
 refine wpListIn_plain hgd fun K hK' => ?_
 unfold Oper.wpIn
 refine ⟨?_, ?_⟩
 · simp [Oper.about, ho]
 · rw [Oper.semAt_plain F _ _ (by rw [ho]; intro c hc'; cases hc')]
   unfold execOp
   simp only [ho, hx, Instr.loadAt, Instr.sureAddr, Sem.run_bind, Sem.run_pure, Result.andThen_ok, run_loadVar_mid w b o ty cs d hc hu hd hi]
   exact hK' _ _ h
theorem wpListIn_store_mid {ops : Array Oper} {rest : List Oper} {op : Oper} {a : Act} {w : World} {Q : Exit → Act → World → Prop} (hgd : op.guard = none) (ty : TypeId) (x y : Operand) (ho : op.op = .store ty x y)
 (b o : Nat) (cells : Array Value) (hx : a.eval x = .pointer (some ⟨b, o, none⟩)) (hy : a.eval y = .agg cells)
 (ht : w.there b o cells.size) (hi : (P.info? ty).map (·.size) = some cells.size) (h1 : cells.all (·.oneCell') = true)
 (h : wpListIn F n P ops Q rest (a.put op.dst undef) (w.setCells b o cells.toList)) : wpListIn F n P ops Q (op :: rest) a w := by
 refine wpListIn_plain hgd fun K hK' => ?_
 unfold Oper.wpIn
 refine ⟨?_, ?_⟩
 · simp [Oper.about, ho]
 · rw [Oper.semAt_plain F _ _ (by rw [ho]; intro c hc'; cases hc')]
   unfold execOp
   simp only [ho, hx, hy, Instr.storeAt, Instr.sureAddr, Sem.run_bind, Sem.run_pure, Result.andThen_ok, run_storeVar_mid w b o ty cells ht hi h1]
   exact hK' _ _ h
end Go
namespace Go.Proofs.YtnonfdcbnkdmcaaGreatDoor
open Go.RowKit Go.Mem Go.Shelf
open Sto (Ent)

attribute [local go_sem] Oper.semAt_some

def fD (d : List Nat) : Nat → Nat := fun i => d.getD i 0
def rD (f : Nat → Nat) : List Nat := (List.range 32).map f
theorem rD_fD {d : List Nat} (h : d.length = 32) : rD (fD d) = d := (as_range h).symm
theorem rD_length (f : Nat → Nat) : (rD f).length = 32 := by simp [rD]

set_option maxRecDepth 20000 in
set_option maxHeartbeats 4000000 in
theorem digIter_in (l Bs n c : Nat) (a : Option Addr) (K : Nat → Prop) (es : List Ent) (J Jx : List (Nat → Nat) → World → Prop) (w0 W : World)
 (hJa : AbidesFrom W.heap.size J)
 (hY : ∀ pre x W1, J pre W1 → pre.length < es.length → YieldAt Fence.wide 4 Tryz.prog l #[.agg (bv (rD x)).toArray] W1 fun e W' =>
   (e = .returned (.bool true) ∧ J (pre ++ [x]) W' ∧ Below w0.heap.size W1 W') ∨ (e = .returned (.bool false) ∧ Jx (pre ++ [x]) W'))
 (H : ES K w0 a n c es) (hW : Below w0.heap.size w0 W)
 (hBs : W.cell? ⟨Bs, 0, none⟩ = some (.slice a n c)) (h0 : J [] W) :
 CallsIn Fence.wide 5 Tryz.prog 126 #[.func (.yield l) #[] #[], .pointer (some ⟨Bs, 0, none⟩)] W fun e W' => (∃ v, e = .returned v) ∧
  ((∃ ys, ys = es.map (fun e => fD e.dig) ∧ J ys W') ∨ (∃ pre, pre <+: es.map (fun e => fD e.dig) ∧ Jx pre W')) := by
 have hlen := H.rs.len
 have hbd := H.bd
 have n63 : (n : Int) ≤ 100000 := by omega
 have H' := Lib.hid H
 clear H
 refine callsIn_of_wp Tryz.func126 rfl trivial ?_ rfl
 simp only [Tryz.ntmps126, List.size_toArray, List.length_cons, List.length_nil, Nat.reduceAdd, Nat.reduceSub, Array.replicate_succ, Array.replicate_zero, List.push_toArray, List.append_toArray, List.nil_append, List.cons_append]
 gi_wp2_with fail
 gi_loopw [7] (fun i wr => ∃ k : Nat, k ≤ n ∧ i = .int .i64 k ∧ J ((es.take k).map (fun e => fD e.dig)) wr ∧ Hid (Below w0.heap.size w0 wr) ∧ W.heap.size ≤ wr.heap.size)
  (fun i _ => n - (intOf i).toNat)
 case atStart => exact ⟨0, Nat.zero_le _, rfl, h0, hW, Nat.le_refl _⟩
 case round =>
  obtain ⟨k, hk, rfl, hJs, hnx, hsz⟩ := hrel
  by_cases hlt : k < n
  · have hkl : k < es.length := by omega
    have he : es[k]? = some es[k] := List.getElem?_eq_getElem hkl
    have htk : (es.take (k + 1)).map (fun e => fD e.dig) = (es.take k).map (fun e => fD e.dig) ++ [fD es[k].dig] := by rw [List.take_succ_eq_append_getElem hkl, List.map_append]; rfl
    have hpl : ((es.take k).map (fun e => fD e.dig)).length < es.length := by simp; omega
    generalize es[k] = e at *
    obtain ⟨b, off, r, rfl, hbl, _, ⟨ho, da, dn, dc, er, hbk⟩, hrl, hrg⟩ := (H'.out.below hnx.out).rs.get he
    obtain ⟨W2, hP⟩ := put_row (ty := 75) (Blk.new wr 75 (entC ⟨0, List.replicate 32 0, [], false⟩ none 0 0)) (x := r) (by rw [hrl]; rfl) (by rw [hrl]; exact sizeE) (by rw [er]; exact entC_one _ _ _ _)
    have hE2 : EntB W2 wr.heap.size e da dn dc := by
     have := hP.blk
     rw [er] at this
     exact EntB.of this ho.dig
    have hgw : wr.grownBy W2 none := ⟨hP.grown.os, hP.grown.tape, hP.grown.output, Nat.le_trans (by simp) hP.grown.size, fun q hq _ => (hP.grown.block q (by simp; omega) (fun e => by cases e; omega)).trans (Below.heap_alloc wr _ q hq)⟩
    have hJ1 : J ((es.take k).map (fun e => fD e.dig)) W2 := hJa _ wr _ none hJs hgw (fun r e => by cases e)
    have hn2 := Lib.hid (hnx.out.grown hgw hnx.out.size (fun _ e => by cases e))
    have hs2 : W.heap.size ≤ W2.heap.size := Nat.le_trans hsz hgw.size
    have hri : Hid ((Tryz.prog.info? 75).map (·.size) = some r.length) := by show _ = _; rw [hrl]; exact sizeE
    have hdi : Hid ((Tryz.prog.info? 32).map (·.size) = some (bv e.dig).length) := by show _ = _; rw [bv_length, ho.dig]; exact size35
    have hP' := Lib.hid hP; have hrg' := Lib.hid hrg
    have hdr := Lib.hid hE2.dig
    have hY1 := hY _ (fD e.dig) _ hJ1 hpl
    rw [rD_fD ho.dig] at hY1
    obtain ⟨fn, tmps, assign, body, hy, hR⟩ := hY1
    have htk' := Lib.hid htk
    have hR' := Lib.hid hR
    have k0 : (0 : Int) ≤ (k : Int) := by omega
    have k1 : (k : Int) < (n : Int) := by omega
    clear htk hkl hY hJs hJ1 hP hrg hE2 hR hgw hnx er hbk hbl ho he hrl
    gi_wp2_with (first
     | (refine wpListIn_load_mid (by rfl) 75 (.tmp 9) (by rfl) b (off + k * 35) (by rfl) r _ hrg'.out Tryz.underlying75 (by rfl) hri.out ?_)
      | (refine wpListIn_store_mid (by rfl) 75 (.tmp 4) (.tmp 10) (by rfl) wr.heap.size 0 r.toArray (by rfl) (by rfl) hP'.out.there hP'.out.info (by simpa using hP'.out.one) ?_
         generalize hWq : World.setCells _ _ _ _ = Wa
         obtain rfl : W2 = Wa := by rw [← hWq]; exact hP'.out.eq
         clear hWq)
      | (refine wpListIn_load_mid (by rfl) 32 (.tmp 12) (by rfl) wr.heap.size 1 (by rfl) (bv e.dig) _ hdr.out Tryz.underlying32 (by rfl) hdi.out ?_))
    clear hP' hrg' hdr hri hdi hy
    refine hR'.out.mono ?_
    rintro e2 W3 (⟨rfl, hJ3, hk3⟩ | ⟨rfl, hJx3⟩)
    · have hn3 := Lib.hid (hn2.out.trans hk3)
      have hs3 := Nat.le_trans hs2 hk3.size
      gi_wp2_with fail
      go_roundw
      case rel => exact ⟨k + 1, by omega, by go_num, by rw [htk'.out]; exact hJ3, hn3, hs3⟩
      case measure => simp [intOf]; omega
    · gi_wp2_with fail
      refine bodyPost_ret (results_none rfl _ _ _) rfl ?_
      exact ⟨⟨_, rfl⟩, .inr ⟨_, ⟨(es.drop (k + 1)).map (fun e => fD e.dig), by rw [← htk'.out, ← List.map_append, List.take_append_drop]⟩, hJx3⟩⟩
  · obtain rfl : k = n := by omega
    rw [List.take_of_length_le (by omega)] at hJs
    gi_wp2_with fail
    go_end0
    exact ⟨⟨_, rfl⟩, .inl ⟨_, rfl, hJs⟩⟩

theorem digIter_stops (Bs n c : Nat) (a : Option Addr) (K : Nat → Prop) (es : List Ent) (w0 w : World) (hBs : Bs < w.heap.size) (H : ES K w0 a n c es) (hw : Below w0.heap.size w0 w)
 (hc : w.cell? ⟨Bs, 0, none⟩ = some (.slice a n c)) :
 SeqStopsK Fence.wide 5 Tryz.prog 126 #[.pointer (some ⟨Bs, 0, none⟩)] (fun x : Nat → Nat => #[Value.agg (bv (rD x)).toArray]) (Below w0.heap.size) (fun ys => ys = es.map (fun e => fD e.dig)) (fun pre => pre <+: es.map (fun e => fD e.dig)) es.length w := fun l J Jx W hW hJ _ hY h0 => by
 have hc' := (hW.cell (p := ⟨Bs, 0, none⟩) hBs).trans hc
 exact digIter_in l Bs n c a K es J Jx w0 W hJ hY H (hw.trans (hW.mono hw.size)) hc' h0

theorem digests_any (a : Option Addr) (n c : Nat) (w : World) :
 Calls Tryz.prog 82 #[.slice a n c] w fun e w' => e = .returned (.func (.func 126) #[] #[.pointer (some ⟨w.heap.size, 0, none⟩)]) ∧ w' = w.alloc (.cells #[.slice a n c] 30) := by
 go_enter Tryz.func82, Tryz.ntmps82
 go_wp2_with fail
 go_ret
 exact ⟨rfl, rfl⟩
end Go.Proofs.YtnonfdcbnkdmcaaGreatDoor
namespace Go
variable {P : Program} {F : Fence} {n : Nat}
theorem wpListIn_buildSlice_run {ops : Array Oper} {rest : List Oper} {op : Oper} {a : Act} {w w' : World} {Q : Exit → Act → World → Prop} {v : Value} (hgd : op.guard = none) (t : TypeId) (k : Nat) (parts : Array (Nat × Operand)) (ho : op.op = .buildSlice t k parts) (ps : Array (Nat × Value)) (hp : (parts.map fun (i, x) => (i, a.eval x)) = ps) (hr : (Instr.buildSlice t k ps).run P w = .ok v w')
 (h : wpListIn F n P ops Q rest (a.put op.dst v) w') : wpListIn F n P ops Q (op :: rest) a w := by
 refine wpListIn_plain hgd fun K hK' => ?_
 unfold Oper.wpIn
 refine ⟨?_, ?_⟩
 · simp [Oper.about, ho]
 · rw [Oper.semAt_plain F _ _ (by rw [ho]; intro c hc'; cases hc')]
   unfold execOp
   simp only [ho, hp, Sem.run_bind, hr, Result.andThen_ok, Sem.run_pure]
   exact hK' _ _ h
end Go
namespace Go.Proofs.YtnonfdcbnkdmcaaGreatDoor
open Go.RowKit Go.Mem Go.Shelf
open Sto (Ent)
attribute [local go_sem] Oper.semAt_some

theorem digs_row (f : Nat → Nat) (W : World) :
 (Instr.buildSlice 47 1 #[(0, .agg (bv (rD f)).toArray)]).run Tryz.prog W = .ok (.slice (some ⟨W.heap.size, 0, none⟩) 1 1) (W.alloc (.cells (bv (rD f)).toArray 32)) := by
 unfold rD
 kernel_rfl
theorem infoDg : (Tryz.prog.info? 32).map (fun i => (i.zero.map (·.cells.size), i.size, i.bytes)) = some (some 32, 32, 32) := by kernel_rfl

theorem info_partsD : ∃ i0, Tryz.prog.info? 32 = some i0 ∧ (∃ z, i0.zero = some z ∧ z.cells.size = 32) ∧ i0.size = 32 ∧ i0.bytes = 32 := by
 have h := infoDg
 cases hq : Tryz.prog.info? 32 with
 | none => rw [hq] at h; simp at h
 | some i =>
  rw [hq] at h
  simp only [Option.map_some, Option.some.injEq, Prod.mk.injEq, Option.map_eq_some_iff] at h
  exact ⟨i, rfl, h.1, h.2.1, h.2.2⟩
def digRows (pre : List (Nat → Nat)) : List Value := (pre.map fun f => bv (rD f)).flatten
theorem digRows_snoc (pre : List (Nat → Nat)) (x : Nat → Nat) : digRows (pre ++ [x]) = digRows pre ++ bv (rD x) := by simp [digRows]

set_option maxRecDepth 20000 in
set_option maxHeartbeats 4000000 in
theorem appendSeq_any (Bs n c : Nat) (a : Option Addr) (K : Nat → Prop) (es : List Ent) (w : World) (hBs : Bs < w.heap.size) (H : ES K w a n c es)
 (hc : w.cell? ⟨Bs, 0, none⟩ = some (.slice a n c)) :
 Calls Tryz.prog 125 #[.slice none 0 0, .func (.func 126) #[] #[.pointer (some ⟨Bs, 0, none⟩)]] w
  fun e w' => ∃ v, e = .returned v ∧ w'.ownsRow w.heap.size 32 32 v es.length (digRows (es.map fun e => fD e.dig)) ∧ Below w.heap.size w w' := by
 obtain ⟨W0, hW0⟩ : ∃ W0, W0 = w.alloc (.cells #[.slice none 0 0] 47) := ⟨_, rfl⟩
 have hb0 : Below w.heap.size w W0 := by rw [hW0]; exact (Below.refl _ _).alloc (Nat.le_refl _) _
 have hbx : Boxed W0 w.heap.size 47 (.slice none 0 0) := by rw [hW0]; exact Boxed.new w _ _
 have hsz0 : W0.heap.size = w.heap.size + 1 := by rw [hW0]; simp
 refine callsIn_wide (n := 6).1 ?_
 refine callsIn_of_wp_marks Tryz.func125 rfl trivial ?_ rfl
 simp only [Tryz.ntmps125, List.size_toArray, List.length_cons, List.length_nil, Nat.reduceAdd, Nat.reduceSub, Array.replicate_succ, Array.replicate_zero, List.push_toArray, List.append_toArray, List.nil_append, List.cons_append]
 gi_wp2_with fail
 rw [← hW0]
 obtain ⟨i0, hi, hz0, hz1, hz2⟩ := info_partsD
 obtain ⟨z0, hz0, hzs⟩ := hz0
 have hle := H.rs.len
 have hbd := H.bd
 have hi32 : ∀ x, (Tryz.prog.info? 32).map (·.size) = some (bv (rD x)).length := fun x => by rw [bv_length, rD_length]; exact size35
 refine wpIn_rangeFunc_ownH rfl (by omega) (gf := 126) (lb := #[.pointer (some ⟨Bs, 0, none⟩)]) rfl trivial (enters_of Tryz.func126 (by kernel_rfl) rfl)
  (digIter_stops Bs n c a K es w w hBs H (Below.refl _ _) hc) belowK_t (belowK_b (by omega)) hb0 (fun _ => rfl)
  (fun pre W => (∃ v, Boxed W w.heap.size 47 v ∧ W.ownsRow w.heap.size 32 32 v pre.length (digRows pre) ∧ True) ∧ Below w.heap.size w W)
  (fun _ _ _ => False)
  (OwnFrom.and (Own.from (holdsRow_own w.heap.size w.heap.size 47 32 32 List.length digRows (fun _ _ => True)) _) (ownFrom_below (Nat.le_refl _) (by omega)))
  (fun _ _ _ _ _ hs _ _ => hs)
  ⟨⟨_, hbx, World.ownsRow_nil W0 _ _ _, trivial⟩, hb0⟩
  (fun x a' W => ∃ q, a' = { tmps := #[.slice none 0 0, .func (.func 126) #[] #[.pointer (some ⟨Bs, 0, none⟩)], .pointer (some ⟨w.heap.size, 0, none⟩), undef, .slice none 0 0, .pointer (some ⟨q, 0, none⟩), .func (.func 126) #[] #[.pointer (some ⟨Bs, 0, none⟩)], .agg (bv (rD x)).toArray, undef, undef, undef, undef, undef], defers := [] } ∧ Blk W q 32 (bv (rD x)))
  (fun x a' s A B row hs hg hr => by
    obtain ⟨q, e, hq⟩ := hs
    exact ⟨q, e, hq.grown hg (fun er => by
     obtain ⟨_, o, ho, hcl⟩ := hr q er.symm
     rw [show A.heap[q]? = _ from hq] at ho
     cases ho
     cases hcl)⟩) ?assign ?body ?done ?stop
 case assign =>
  rintro l pre x W K ⟨⟨v, hv, hrow, _⟩, hB⟩ hK
  obtain ⟨W2, hP⟩ := put_dig (x := rD x) (Blk.new W 32 (bv (List.replicate 32 0))) (by simp) (rD_length x)
  have hgw : W.grownBy W2 none := ⟨hP.grown.os, hP.grown.tape, hP.grown.output, Nat.le_trans (by simp) hP.grown.size, fun q hq _ => (hP.grown.block q (by simp; omega) (fun e => by cases e; omega)).trans (Below.heap_alloc W _ q hq)⟩
  have hfin := Lib.hid (fun a' h => hK a' W2 ((KeepsOthers.of_grownBy hgw (fun j o e => by cases e)).from _) ((Below.refl w.heap.size W).grown hgw hB.size (fun _ e => by cases e)) ⟨⟨v, hv.kept hgw (fun e => by cases e), hrow.kept hgw (by
   rcases hrow.2 with ⟨rfl, _⟩ | ⟨g, cap, cur, rfl, _⟩
   · exact .inl rfl
   · exact .inr (by simp [Value.ownBlock])), trivial⟩, hB.grown hgw hB.size (fun _ e => by cases e)⟩ ⟨W.heap.size, h, hP.blk⟩)
  obtain ⟨RES, hRES⟩ : ∃ RES, Hid (bv (rD x) = RES) := ⟨_, rfl⟩
  rw [hRES.out] at hP hfin ⊢
  have hP' := Lib.hid hP
  clear hP hK hv hrow hB hgw
  gi_wp2_with (first
   | (refine wpListIn_store_mid (by rfl) 32 (.tmp 5) (.tmp 7) (by rfl) W.heap.size 0 RES.toArray (by rfl) (by rfl) hP'.out.there hP'.out.info (by simpa using hP'.out.one) ?_
      generalize hWq : World.setCells _ _ _ _ = Wa
      obtain rfl : W2 = Wa := by rw [← hWq]; exact hP'.out.eq
      clear hWq))
  exact hfin.out _ rfl
 case body =>
  rintro l pre x a' W _ _ ⟨⟨v, hv, hrow, _⟩, hB⟩ ⟨q, rfl, hq⟩ hlen
  have cv := hv.cell
  have cf := hv.frozen
  gi_wp2_with (first
   | (refine wpListIn_load_mid (by rfl) 32 (.tmp 5) (by rfl) q 0 (by rfl) (bv (rD x)) _ hq.range Tryz.underlying32 (by rfl) (hi32 x) ?_)
    | (refine wpListIn_buildSlice_run (by rfl) 47 1 _ rfl #[(0, .agg (bv (rD x)).toArray)] (by simp only [List.map_toArray, List.map_cons, List.map_nil]; rfl) (digs_row x _) ?_)
    | (refine wpListIn_append_own _ rfl _ _ 47 rfl w.heap.size 32 i0 z0 32 32 Tryz.underlying47 hi hz0 hz1 hz2 hzs (by decide) v pre.length (digRows pre) rfl (hrow.alloc _) ⟨W.heap.size, 0, none⟩ 1 1 (bv (rD x)) rfl (by rw [bv_length, rD_length]) (new_cells W _ _) (bv_one _) (by unfold maxLen; omega) (by omega) (by simp; have := hB.size; omega) ?_
       intro v' w1 hown' hgrow _
       obtain ⟨g, cap, rfl⟩ := ownsRow_succ hown'
       obtain ⟨hv1, hv2, hown2, hko, hb2⟩ := Boxed.appended hv (by decide) hrow hB.size (Nat.le_refl _) hown' hgrow
       have fc := hv1.cell
       have ff := hv1.frozen))
  refine ⟨hko.from _, hb2, ⟨_, hv2, ?_, trivial⟩, hB.trans hb2⟩
  rw [digRows_snoc, List.length_append]
  exact hown2
 case done =>
  rintro D ys W hD rfl ⟨⟨v, hv, hrow, _⟩, hB⟩ hK
  have cv := hv.cell
  gi_wp2_with fail
  refine ⟨by simp, .inl ⟨_, _, rfl, run_takeDeferred hK, ?_⟩⟩
  rw [List.length_map] at hrow
  exact ⟨_, results_tmp rfl _ _ _, v, rfl, ownsRow_putObj hrow _ hK rfl, hB.grown (grownBy_putObj' _ D _) hB.size (fun k e => by cases e; omega)⟩
 case stop =>
  rintro D c pre W _ _ h _
  exact h.elim

theorem DS.own {w : World} {B : Nat} {v : Value} {ds : List (List Nat)} (hok : ∀ x ∈ ds, x.length = 32 ∧ ∀ u ∈ x, u < 256) (h : w.ownsRow B 32 32 v ds.length (digRows (ds.map fD))) : ∃ a c, v = .slice a ds.length c ∧ DS w a ds.length c ds := by
 rcases h.2 with ⟨rfl, h0⟩ | ⟨g, cap, cur, rfl, hbg, hg, hle, hcm, _⟩
 · have h0' : ds.length = 0 := h0
   rw [h0']
   exact ⟨none, 0, rfl, ⟨h0', Nat.le_refl _, by omega, fun _ => rfl, fun _ ad e => by (cases e), hok⟩⟩
 · refine ⟨some ⟨g, 0, none⟩, cap, rfl, ⟨rfl, hle, (by unfold maxLen at hcm; omega), fun e => by (cases e), fun _ ad e => ?_, hok⟩⟩
   cases e
   refine ⟨g, 0, rfl, (Array.getElem?_eq_some_iff.1 hg).1, fun i x hi j u hu => ?_⟩
   have hx : (ds.map fD)[i]? = some (fD x) := by rw [List.getElem?_map, hi]; rfl
   have hr : ((ds.map fD).map fun f => bv (rD f))[i]? = some (bv x) := by
    rw [List.getElem?_map, hx]
    show some (bv (rD (fD x))) = _
    rw [rD_fD (hok x (List.mem_of_getElem? hi)).1]
   have hc := h.cells (g := g) rfl (i * 32 + j) u (flat_get (rows := (ds.map fD).map fun f => bv (rD f)) (s := 32) (by
    intro y hy
    obtain ⟨f, _, rfl⟩ := List.mem_map.1 hy
    rw [bv_length, rD_length]) hr hu)
   rw [Addr.add_lit] at hc
   rw [show 0 + 32 * i + j = 0 + (i * 32 + j) by omega]
   exact hc

def ColPost (ds : List (List Nat)) (w : World) (e : Ending) (w' : World) : Prop := ∃ a c, e = .returned (.slice a ds.length c) ∧ DS w' a ds.length c ds ∧ Below w.heap.size w w'
theorem collect_any (Bs n c : Nat) (a : Option Addr) (K : Nat → Prop) (es : List Ent) (hok : ∀ e ∈ es, OkE e) (w : World) (hBs : Bs < w.heap.size) (H : ES K w a n c es)
 (hc : w.cell? ⟨Bs, 0, none⟩ = some (.slice a n c)) :
 Calls Tryz.prog 81 #[.func (.func 126) #[] #[.pointer (some ⟨Bs, 0, none⟩)]] w (ColPost (es.map (·.dig)) w) := by
 have hap := Lib.hid (appendSeq_any Bs n c a K es w hBs H hc)
 go_enter Tryz.func81, Tryz.ntmps81
 go_wp2_with fail
 refine hap.out.mono ?_
 rintro e w1 ⟨v, rfl, hown, hb⟩
 have he : (es.map fun e => fD e.dig) = (es.map (·.dig)).map fD := by simp
 rw [he, show es.length = (es.map (·.dig)).length by simp] at hown
 obtain ⟨a1, c1, rfl, hD⟩ := DS.own (fun x hx => by
  obtain ⟨e, he, rfl⟩ := List.mem_map.1 hx
  exact ⟨(hok e he).dig, (hok e he).lt⟩) hown
 go_wp2_with fail
 go_ret
 exact ⟨a1, c1, by rw [List.length_map]; rfl, hD, hb⟩
end Go.Proofs.YtnonfdcbnkdmcaaGreatDoor
namespace Go
variable {P : Program}
theorem wpList_buildSlice_run {ops : Array Oper} {rest : List Oper} {op : Oper} {a : Act} {w w' : World} {Q : Exit → Act → World → Prop} {v : Value} (hgd : op.guard = none) (t : TypeId) (k : Nat) (parts : Array (Nat × Operand)) (ho : op.op = .buildSlice t k parts) (ps : Array (Nat × Value)) (hp : (parts.map fun (i, x) => (i, a.eval x)) = ps) (hr : (Instr.buildSlice t k ps).run P w = .ok v w')
 (h : wpList P ops Q rest (a.put op.dst v) w') : wpList P ops Q (op :: rest) a w :=
 wpList_plain hgd fun _ hK => by
  unfold Oper.wp execOp
  simp only [ho, hp, Sem.run_bind, hr, Result.andThen_ok, Sem.run_pure]
  exact hK _ _ h
end Go
namespace Go.Proofs.YtnonfdcbnkdmcaaGreatDoor
open Go.RowKit Go.Mem
def OwnD (w0 W : World) (v : Value) (ds : List (List Nat)) : Prop := W.ownsRow w0.heap.size 32 32 v ds.length (digRows (ds.map fD)) ∧ ∀ x ∈ ds, x.length = 32 ∧ ∀ u ∈ x, u < 256
theorem OwnD.ds {w0 W : World} {v : Value} {ds : List (List Nat)} (h : OwnD w0 W v ds) : ∃ a c, v = .slice a ds.length c ∧ DS W a ds.length c ds := DS.own h.2 h.1
theorem dig_slice1 {d : List Nat} (hd : d.length = 32) (W : World) : (Instr.buildSlice 47 1 #[(0, .agg (bv d).toArray)]).run Tryz.prog W = .ok (.slice (some ⟨W.heap.size, 0, none⟩) 1 1) (W.alloc (.cells (bv d).toArray 32)) := by
 have h := digs_row (fD d) W
 rwa [rD_fD hd] at h
theorem append_dg {w0 W : World} {v : Value} {ds : List (List Nat)} {d : List Nat} (ho : OwnD w0 W v ds) (hb0 : Below w0.heap.size w0 W) (hd : d.length = 32 ∧ ∀ u ∈ d, u < 256) (hn : ds.length + 1 ≤ 1000000000000) :
 ∃ v' W', (∀ ty, (Builtin.append_ #[47, 47] ty #[v, .slice (some ⟨W.heap.size, 0, none⟩) 1 1]).run Tryz.prog (W.alloc (.cells (bv d).toArray 32)) = .ok v' W') ∧ OwnD w0 W' v' (ds ++ [d]) ∧ Below w0.heap.size w0 W' := by
 obtain ⟨i0, hi, ⟨z, hz0, hzs⟩, hz1, hz2⟩ := info_partsD
 have hown := World.ownsRow.alloc ho.1 (.cells (bv d).toArray 32)
 have hba := hb0.alloc hb0.size (.cells (bv d).toArray 32)
 have hB := Blk.new W 32 (bv d)
 obtain ⟨v', w', hr, h2, h3, _⟩ := run_append_own (P := Tryz.prog) (W.alloc (.cells (bv d).toArray 32)) w0.heap.size 47 0 32 i0 z 32 32 Tryz.underlying47 hi hz0 hz1 hz2 hzs (by omega) v ds.length (digRows (ds.map fD)) hown ⟨W.heap.size, 0, none⟩ 1 1 (bv d) (by rw [bv_length, hd.1]) (fun j u hj => by rw [Addr.add_lit, Nat.zero_add]; exact hB.at_ hj) (bv_one d) (by unfold maxLen; omega) (by omega) hba.size
 refine ⟨v', w', fun ty => ?_, ⟨?_, ?_⟩, hba.grown h3 hba.size (fun r e => (World.ownsRow.lt hown r e).1)⟩
 · rw [← hr]; rfl
 · rw [List.map_append, List.map_cons, List.map_nil, digRows_snoc, rD_fD hd.1, List.length_append]
   exact h2
 · intro x hx
   rcases List.mem_append.1 hx with hx | hx
   · exact ho.2 x hx
   · rw [List.mem_singleton] at hx; subst hx; exact hd
end Go.Proofs.YtnonfdcbnkdmcaaGreatDoor
