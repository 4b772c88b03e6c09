/- Laws on slices of elements of any number of cells: copy, append of zeros, what a slice reads as, what a row of the call's own gives. No program. -/
import Derived.WalkKit
import Derived.Lib.Hide
import Derived.Lib.Overlaps
import Derived.Lib.AppendZeros
import Derived.Laws.CopyOwn
import Derived.Deep.RegionLaw
namespace Go.Sl
open Go.RowKit

structure Reads (w : World) (a : Option Addr) (n c sz : Nat) (xs : List Value) : Prop where
 len : xs.length = n * sz
 le : n ≤ c
 max : c ≤ maxLen
 nil : a = none → n = 0 ∧ c = 0
 cells : 0 < n → ∃ b off, a = some ⟨b, off, none⟩ ∧ b < w.heap.size ∧ ∀ j u, xs[j]? = some u → w.cell? ⟨b, off + j, none⟩ = some u

theorem Reads.below {w w' : World} {a : Option Addr} {n c sz B : Nat} {xs : List Value} (h : Reads w a n c sz xs) (hb : Below B w w') (hB : w.heap.size ≤ B) : Reads w' a n c sz xs :=
 ⟨h.len, h.le, h.max, h.nil, fun hn => by
  obtain ⟨b, off, e, hl, hc⟩ := h.cells hn
  exact ⟨b, off, e, Nat.lt_of_lt_of_le hl hb.size, fun j u hj => (hb.cell (p := ⟨b, _, none⟩) (Nat.lt_of_lt_of_le hl hB)).trans (hc j u hj)⟩⟩

theorem Reads.grown {w w' : World} {a : Option Addr} {n c sz : Nat} {row : Option Nat} {xs : List Value} (h : Reads w a n c sz xs) (hg : w.grownBy w' row) (hne : 0 < n → ∀ ad, a = some ad → some ad.block ≠ row) : Reads w' a n c sz xs :=
 ⟨h.len, h.le, h.max, h.nil, fun hn => by
  obtain ⟨b, off, e, hl, hc⟩ := h.cells hn
  exact ⟨b, off, e, Nat.lt_of_lt_of_le hl hg.size, fun j u hj => hg.cell (hc j u hj) (show some b ≠ row from hne hn ⟨b, off, none⟩ e)⟩⟩

theorem Reads.nil' (w : World) (sz : Nat) : Reads w none 0 0 sz [] := ⟨by simp, Nat.le_refl _, by unfold maxLen; omega, fun _ => ⟨rfl, rfl⟩, fun h => absurd h (by omega)⟩

theorem Reads.news {w : World} {ad : Addr} {n c sz : Nat} {xs : List Value} (h : Reads w (some ad) n c sz xs) : ∀ j u, xs[j]? = some u → w.cell? (ad.add j) = some u := by
 intro j u hj
 by_cases hn : 0 < n
 · obtain ⟨b, off, e, _, hc⟩ := h.cells hn
   cases e
   rw [Addr.add_lit]
   exact hc j u hj
 · have : n = 0 := by omega
   have hl := h.len
   rw [this, Nat.zero_mul] at hl
   rw [List.eq_nil_of_length_eq_zero hl] at hj
   cases hj

theorem of_owns {w : World} {base : Nat} {e : TypeId} {sz : Nat} {v : Value} {n : Nat} {xs : List Value} (h : w.ownsRow base e sz v n xs) :
 ∃ a c, v = .slice a n c ∧ Reads w a n c sz xs ∧ (∀ ad, a = some ad → base ≤ ad.block ∧ ad.block < w.heap.size) := by
 have hl := h.1
 rcases h.2 with ⟨rfl, rfl⟩ | ⟨g, cap, cur, rfl, hb, hg, hnc, hcm, hcs, htake⟩
 · refine ⟨none, 0, rfl, ⟨hl, Nat.le_refl _, by unfold maxLen; omega, fun _ => ⟨rfl, rfl⟩, fun h => absurd h (by omega)⟩, fun _ h => by cases h⟩
 · have hgl : g < w.heap.size := (Array.getElem?_eq_some_iff.1 hg).1
   refine ⟨_, cap, rfl, ⟨hl, hnc, hcm, fun h => (by cases h), fun _ => ⟨g, 0, rfl, hgl, fun j u hj => ?_⟩⟩, fun ad h => by cases h; exact ⟨hb, hgl⟩⟩
   have := h.cells (g := g) rfl j u hj
   rwa [Addr.add_lit] at this

theorem owns_mono {w : World} {base base' : Nat} {e : TypeId} {sz : Nat} {v : Value} {n : Nat} {xs : List Value} (h : w.ownsRow base e sz v n xs) (hb : base' ≤ base) : w.ownsRow base' e sz v n xs := by
 refine ⟨h.1, ?_⟩
 rcases h.2 with h | ⟨g, cap, cur, rfl, hg, rest⟩
 · exact .inl h
 · exact .inr ⟨g, cap, cur, rfl, by omega, rest⟩

theorem owns_below {w w' : World} {base : Nat} {e : TypeId} {sz : Nat} {v : Value} {n B : Nat} {xs : List Value} (h : w.ownsRow base e sz v n xs) (hb : Below B w w') (hB : w.heap.size ≤ B) : w'.ownsRow base e sz v n xs := by
 refine ⟨h.1, ?_⟩
 rcases h.2 with h | ⟨g, cap, cur, rfl, hg, hh, rest⟩
 · exact .inl h
 · exact .inr ⟨g, cap, cur, rfl, hg, (hb.block g (Nat.lt_of_lt_of_le (Array.getElem?_eq_some_iff.1 hh).1 hB)).trans hh, rest⟩

theorem owns_row {w : World} {base : Nat} {e : TypeId} {sz : Nat} {v : Value} {n : Nat} {xs : List Value} (h : w.ownsRow base e sz v n xs) (hn : 0 < n) :
 ∃ g cap rest, v = .slice (some ⟨g, 0, none⟩) n cap ∧ base ≤ g ∧ g < w.heap.size ∧ w.heap[g]? = some (.cells (xs ++ rest).toArray e (0, 0)) ∧ n ≤ cap ∧ cap ≤ maxLen ∧ xs.length + rest.length = cap * sz := by
 rcases h.2 with ⟨_, rfl⟩ | ⟨g, cap, cur, rfl, hb, hh, hnc, hcm, hcs, htake⟩
 · omega
 · refine ⟨g, cap, cur.toList.drop (n * sz), rfl, hb, (Array.getElem?_eq_some_iff.1 hh).1, ?_, hnc, hcm, ?_⟩
   · rw [← htake, List.take_append_drop, Array.toArray_toList]; exact hh
   · rw [List.length_drop, h.1, Array.length_toList, hcs]
     have := Nat.mul_le_mul_right sz hnc
     omega

theorem owns_mk {w : World} {base g cap : Nat} {e : TypeId} {sz n : Nat} {xs rest : List Value} (hb : base ≤ g) (hh : w.heap[g]? = some (.cells (xs ++ rest).toArray e (0, 0))) (hx : xs.length = n * sz) (hnc : n ≤ cap) (hcm : cap ≤ maxLen)
 (hl : xs.length + rest.length = cap * sz) : w.ownsRow base e sz (.slice (some ⟨g, 0, none⟩) n cap) n xs :=
 ⟨hx, .inr ⟨g, cap, _, rfl, hb, hh, hnc, hcm, by simpa using hl, by rw [← hx]; simp⟩⟩

section
variable {P : Program}

theorem run_copy_rowN (w : World) (dT sT ty elem : TypeId) (g o dLen dCap : Nat) (a : Addr) (sLen sCap m size : Nat) (cur : Array Value) (t : TypeId) (cs : List Value)
 (hu : P.underlying dT = some (.slice elem)) (hs : (P.info? elem).map (·.size) = some size)
 (hg : w.heap[g]? = some (.cells cur t (0, 0))) (hm : m = Nat.min sLen dLen) (hn : cs.length = m * size)
 (hsrc : ∀ j v, cs[j]? = some v → w.cell? (a.add j) = some v) (hfit : o + cs.length ≤ cur.size) (h1 : ∀ v ∈ cs, v.oneCell' = true) :
 (Builtin.copy_ #[dT, sT] ty #[.slice (some ⟨g, o, none⟩) dLen dCap, .slice (some a) sLen sCap]).run P w =
   .ok (goInt m) (w.setRow g (cur.toList.take o ++ cs ++ cur.toList.drop (o + cs.length)).toArray) := by
 have hl := run_loadCells_list (P := P) w a cs hsrc
 have hst := run_storeCells_at P g o t cs 0 cur w hg (by simpa using hfit) h1
 cases hq : P.info? elem with
 | none => simp [hq] at hs
 | some i =>
  have hi : i.size = size := by simpa [hq] using hs
  simp [Builtin.copy_, run_underlying hu, Builtin.lenOf, Builtin.firstCells, sizeOf, typeInfo, hq, hi, ← hm, ← hn, hl, hst]

theorem run_copy_zero (w : World) (dT sT ty elem : TypeId) (d a : Option Addr) (dLen dCap sLen sCap size : Nat)
 (hu : P.underlying dT = some (.slice elem)) (hs : (P.info? elem).map (·.size) = some size) (hm : Nat.min sLen dLen = 0) :
 (Builtin.copy_ #[dT, sT] ty #[.slice d dLen dCap, .slice a sLen sCap]).run P w = .ok (goInt 0) w := by
 cases hq : P.info? elem with
 | none => simp [hq] at hs
 | some i => cases d <;> cases a <;> simp [Builtin.copy_, run_underlying hu, Builtin.lenOf, Builtin.firstCells, sizeOf, typeInfo, hq, hm, loadCells, loadCellsFrom, storeCells]

theorem run_append_zeros (w : World) (t tn ty e : TypeId) (i : TypeInfo) (z : Value) (kn : IntKind) (ht : P.underlying t = some (.slice e)) (htn : P.underlying tn = some (.int kn)) (hi : P.info? e = some i) (hz : i.zero = some z)
 (b : Addr) (sLen sCap m : Nat) (olds : List Value) (hlo : olds.length = sLen * i.size) (holds : ∀ j v, olds[j]? = some v → w.cell? (b.add j) = some v)
 (q : Int) (hq : q = (m : Int)) (hm : 0 < m) (hs : 0 < i.size) (hg : sCap < sLen + m) (h63 : sLen + m ≤ 9223372036854775807) (hb : (sLen + m) * i.bytes ≤ 140737488355328) :
 (Builtin.append_ #[t, tn] ty #[.slice (some b) sLen sCap, .int .i64 q]).run P w =
   .ok (.slice (some ⟨w.heap.size, 0, none⟩) (sLen + m) (grownCap w (sLen + m) sCap e))
    (w.drew.alloc (.cells (olds.toArray ++ Builtin.zeroCells z.cells m ++ Builtin.zeroCells z.cells (grownCap w (sLen + m) sCap e - (sLen + m))) e)) := by
 subst hq
 have hfo := run_firstCells_some (P := P) w.drew i.size sLen b sLen sCap olds hlo (by simpa using holds)
 have hw : IntKind.i64.wrap (m : Int) = m := by rw [IntKind.wrap_i64]; omega
 have hfit := growslice_fits (bytes := i.bytes) hg hb
 have h48' : ¬ (281474976710656 < Builtin.nextslicecap (sLen + m) sCap * i.bytes) := by omega
 have h1 : m * i.bytes ≤ 140737488355328 := Nat.le_trans (Nat.mul_le_mul_right _ (by omega)) hb
 have h48i : ¬ (281474976710656 < (m : Int) * (i.bytes : Int)) := by rw [← Int.natCast_mul]; omega
 have hneg : ¬ ((m : Int) < 0) := by omega
 have hns : ¬ (m * i.size = 0) := Nat.mul_ne_zero (by omega) (by omega)
 have hn : ¬ (sLen + m ≤ sCap) := by omega
 have h63' : ¬ (9223372036854775807 < ((sLen : Int) + (m : Int))) := by omega
 simp [Builtin.append_, run_underlying ht, run_underlying htn, sizeOf, typeInfo, zeroValue, hi, hz, asInt, asIntOf, hw, hneg, hns, h63', h48', h48i, hn, Question.forced, hfo, newRow, grownCap]

theorem wpList_copy_run (w : World) {ops : Array Oper} {rest : List Oper} {o : Oper} {a : Act} {Q : Exit → Act → World → Prop} (hgd : o.guard = none) (d s : Operand) (t t' : TypeId)
 (ho : o.op = .call { callee := .builtin .copy, args := #[d, s], argTypes := #[t, t'] }) (v u : Value) (hd : a.eval d = v) (hs : a.eval s = u) (v' : Value) (w' : World)
 (hr : (Builtin.copy_ #[t, t'] o.type #[v, u]).run P w = .ok v' w') (h : wpList P ops Q rest (a.put o.dst v') w') : wpList P ops Q (o :: rest) a w :=
 wpList_plain hgd fun K hK => by
  unfold Oper.wp execOp
  simp only [ho, resolve, invoke, builtin, Sem.run_bind, Sem.run_pure, Result.andThen_ok, List.map_toArray, List.map_cons, List.map_nil, hd, hs, hr]
  exact hK _ _ h

theorem step_copy_run {ops : Array Oper} {o : Oper} {a : Act} {w : World} {K : Act → World → Prop} {Q : Exit → Act → World → Prop} {E : Prop}
 (hg : o.guard = none) (d x : Operand) (dT sT : TypeId) (hop : o.op = Op.call { callee := Callee.builtin Builtin.copy, args := #[d, x], argTypes := #[dT, sT] })
 (v u : Value) (hd : a.eval d = v) (hx : a.eval x = u) (v' : Value) (w' : World) (hr : (Builtin.copy_ #[dT, sT] o.type #[v, u]).run P w = .ok v' w') (hK : K (a.put o.dst v') w') :
 if Region.wanted o (yielded ops a.tmps) = true then Oper.wp P o a w K Q else E := by
 have hw : Region.wanted o (yielded ops a.tmps) = true := by simp [Region.wanted, hg]
 rw [if_pos hw]
 unfold Oper.wp
 simp [execOp, hop, resolve, invoke, builtin, hd, hx, hr, Result.andThen]
 exact hK

theorem copy_row (w : World) (dT sT elem : TypeId) (g o dLen : Nat) (a : Addr) (sLen m size : Nat) (t : TypeId) (pre mid post cs : List Value)
 (hu : P.underlying dT = some (.slice elem)) (hs : (P.info? elem).map (·.size) = some size)
 (hg : w.heap[g]? = some (.cells (pre ++ mid ++ post).toArray t (0, 0))) (ho : pre.length = o) (hmid : mid.length = cs.length) (hm : m = Nat.min sLen dLen) (hn : cs.length = m * size)
 (hsrc : ∀ j v, cs[j]? = some v → w.cell? (a.add j) = some v) (h1 : ∀ v ∈ cs, v.oneCell' = true) :
 ∃ w', (∀ ty dC sC, (Builtin.copy_ #[dT, sT] ty #[.slice (some ⟨g, o, none⟩) dLen dC, .slice (some a) sLen sC]).run P w = .ok (goInt m) w') ∧
  w'.heap[g]? = some (.cells (pre ++ cs ++ post).toArray t (0, 0)) ∧ w.grownBy w' (some g) ∧ w'.heap.size = w.heap.size := by
 refine ⟨_, fun ty dC sC => run_copy_rowN w dT sT ty elem g o dLen dC a sLen sC m size _ t cs hu hs hg hm hn hsrc (by simp; omega) h1, ?_, ⟨rfl, rfl, rfl, by simp [World.setRow], fun k _ hk => setRow_other w g k _ (fun e => hk (by simp [e]))⟩, by simp [World.setRow]⟩
 rw [setRow_heap w g _ _ t _ hg]
 congr 3
 have e1 : (pre ++ mid ++ post).take o = pre := by rw [List.append_assoc, ← ho]; exact List.take_left
 have e2 : (pre ++ mid ++ post).drop (o + cs.length) = post := by
  rw [show o + cs.length = (pre ++ mid).length by rw [List.length_append, ho, hmid]]; exact List.drop_left
 rw [List.toList_toArray, e1, e2]

theorem append_zeros (w : World) (t tn e : TypeId) (i : TypeInfo) (z : Value) (kn : IntKind) (size bytes : Nat) (ht : P.underlying t = some (.slice e)) (htn : P.underlying tn = some (.int kn)) (hi : P.info? e = some i) (hz : i.zero = some z)
 (hsize : i.size = size) (hby : i.bytes = bytes) (hzs : z.cells.size = size)
 (b : Addr) (sLen sCap m N : Nat) (olds : List Value) (hlo : olds.length = sLen * size) (holds : ∀ j v, olds[j]? = some v → w.cell? (b.add j) = some v)
 (q : Int) (hq : q = (m : Int)) (hm : 0 < m) (hs : 0 < size) (hN : sLen + m = N) (hg : sCap < N) (hb : N * bytes ≤ 140737488355328) (h63 : N ≤ 9223372036854775807) :
 ∃ c2 w1 Z, (∀ ty, (Builtin.append_ #[t, tn] ty #[.slice (some b) sLen sCap, .int .i64 q]).run P w = .ok (.slice (some ⟨w.heap.size, 0, none⟩) N c2) w1) ∧
  N ≤ c2 ∧ c2 ≤ maxLen ∧ w1.heap[w.heap.size]? = some (.cells (olds ++ Z).toArray e (0, 0)) ∧ olds.length + Z.length = c2 * size ∧ Below w.heap.size w w1 ∧ w1.heap.size = w.heap.size + 1 := by
 subst hsize hby hN
 have hge := grownCap_ge w (sLen + m) sCap e
 refine ⟨grownCap w (sLen + m) sCap e, _, (Builtin.zeroCells z.cells m ++ Builtin.zeroCells z.cells (grownCap w (sLen + m) sCap e - (sLen + m))).toList, fun ty => run_append_zeros w t tn ty e i z kn ht htn hi hz b sLen sCap m olds hlo holds q hq hm hs hg h63 hb, hge,
  grownCap_le_maxLen w _ _ _ (by unfold maxLen; omega), ?_, ?_, ((Below.refl _ w).drew).alloc (Nat.le_refl _) _, by simp⟩
 · rw [show w.heap.size = w.drew.heap.size from rfl, heap_alloc_new]
   congr 2
   apply Array.ext'
   simp
 · simp only [Array.toList_append, List.length_append, Array.length_toList, size_zeroCells, hzs, hlo, ← Nat.add_mul]
   congr 1
   omega

end

def Owns (B : Nat) (et : TypeId) (sz n : Nat) (xs : List Value) (w : World) (e : Ending) (w' : World) : Prop :=
 ∃ v, e = .returned v ∧ w'.ownsRow B et sz v n xs ∧ Below w.heap.size w w'

def OwnsAfter (B : Nat) (et : TypeId) (sz n : Nat) (xs : List Value) (w : World) (e : Ending) (w' : World) : Prop :=
 ∃ v, e = .returned v ∧ w'.ownsRow B et sz v n xs ∧ Below B w w'
end Go.Sl
