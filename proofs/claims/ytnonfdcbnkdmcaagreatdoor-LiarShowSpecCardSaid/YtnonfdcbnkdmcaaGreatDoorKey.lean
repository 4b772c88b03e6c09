/- digests compared; a set of digests (a map keyed by arrays) -/
import Derived.Test.YtnonfdcbnkdmcaaGreatDoorEnt
import Derived.Maps.OwnOps
import Derived.DeepKeys4
namespace Go.Proofs.YtnonfdcbnkdmcaaGreatDoor
open Go.RowKit Go.Mem
open Go.Maps (Keyed)

theorem mapM_some {α β : Type} {f : α → Option β} {g : α → β} : ∀ {l : List α}, (∀ x ∈ l, f x = some (g x)) → l.mapM f = some (l.map g)
 | [], _ => by simp
 | x :: r, h => by
  rw [List.mapM_cons, h x (by simp), mapM_some (fun y hy => h y (by simp [hy]))]
  rfl
theorem flat_range (g : Nat → Lit) (d : List Nat) : ∀ n, n ≤ d.length → ((List.range n).map fun i => [g (d.getD i 0)]).flatten = (d.take n).map g
 | 0, _ => by simp
 | n + 1, h => by
  rw [List.range_succ, List.map_append, List.flatten_append, flat_range g d n (by omega), List.take_add_one, List.map_append]
  have hn : n < d.length := by omega
  simp [List.getD, List.getElem?_eq_getElem hn]

theorem cells35 : Tryz.prog.cellsOf 32 = 32 := by kernel_rfl
theorem cells5 : Tryz.prog.cellsOf 5 = 1 := by kernel_rfl
theorem under35 : Tryz.prog.underlying 32 = some (.array 32 5) := Tryz.underlying32
theorem keyT35 : Tryz.prog.keyTypeAt 2 32 = true := by kernel_rfl
theorem keyType35 : Tryz.prog.keyType 32 = true := by kernel_rfl
theorem types_lt : 32 < Tryz.prog.types.size := of_decide_eq_true (by kernel_rfl)
theorem types_two : ∃ n, Tryz.prog.types.size + 1 = n + 2 := ⟨Tryz.prog.types.size - 1, by have := types_lt; omega⟩

def digL (d : List Nat) : List Lit := d.map fun (x : Nat) => Lit.int .u8 (x : Int)
theorem digL_inj {x y : List Nat} (h : digL x = digL y) : x = y := by
 refine (List.map_inj_right ?_).1 h
 intro a b hab
 simp only [Lit.int.injEq, true_and] at hab
 omega
def Dig (d : List Nat) : Prop := d.length = 32 ∧ ∀ u ∈ d, u < 256

theorem u8_wf : ∀ x : Nat, x < 256 → (Lit.int .u8 (x : Int)).wf = true := by decide +kernel

theorem keyLits_dig (D : Nat) {d : List Nat} (h : Dig d) : Tryz.prog.keyLits (D + 2) 32 (bv d) = some (digL d) := by
 unfold Program.keyLits
 rw [under35]
 simp only [cells35, cells5, bv_length, h.1, if_true]
 rw [mapM_some (g := fun i => [Lit.int .u8 ((d.getD i 0 : Nat) : Int)])]
 · have := flat_range (fun (x : Nat) => Lit.int .u8 (x : Int)) d 32 (by rw [h.1]; exact Nat.le_refl _)
   rw [Option.map_some, this, List.take_of_length_le (by rw [h.1]; exact Nat.le_refl _)]
   rfl
 · intro i hi
   have hil : i < d.length := by rw [h.1]; simpa using hi
   have e1 : ((bv d).drop (i * 1)).take 1 = [.int .u8 ((d.getD i 0 : Nat) : Int)] := by
    rw [Nat.mul_one, List.drop_eq_getElem_cons (by rw [bv_length]; exact hil), List.take_succ_cons, List.take_zero]
    simp [bv, List.getD, List.getElem?_eq_getElem hil]
   rw [e1]
   unfold Program.keyLits
   rw [Tryz.underlying5]
   have hx : d.getD i 0 < 256 := by
    rw [List.getD, List.getElem?_eq_getElem hil]
    exact h.2 _ (List.getElem_mem hil)
   generalize d.getD i 0 = x at *
   have hw : (Lit.int .u8 (x : Int)).wf = true := u8_wf x hx
   simp [hw]

theorem formed_dig {d : List Nat} (h : Dig d) : (Value.agg (bv d).toArray).formed Tryz.prog 32 = true := by
 simp [Value.formed, bv_length, h.1, cells35]

theorem keyOf_dig {d : List Nat} (h : Dig d) : keyOf Tryz.prog 32 (.agg (bv d).toArray) = some (.string (keyBytes (digL d))) := by
 obtain ⟨n, hn⟩ := types_two
 unfold keyOf
 rw [under35]
 simp only [keyType35, formed_dig h, Bool.and_self, if_true, Value.cells, List.toList_toArray, hn, keyLits_dig n h, Option.map_some]

theorem eq_dig {x y : List Nat} (hx : Dig x) (hy : Dig y) (w : World) : (Op.equalIn 10000 32 (.agg (bv x).toArray) (.agg (bv y).toArray)).run Tryz.prog w = .ok (decide (x = y)) w := by
 obtain ⟨r, hr, hiff⟩ := run_equalIn_deep (P := Tryz.prog) 9998 2 32 keyT35 w 2 2 (.agg (bv x).toArray) (.agg (bv y).toArray) (digL x) (digL y) (formed_dig hx) (formed_dig hy)
  (by simpa [Value.cells] using keyLits_dig 0 hx) (by simpa [Value.cells] using keyLits_dig 0 hy)
 have e : r = decide (x = y) := by
  rw [Bool.eq_iff_iff, hiff, decide_eq_true_iff]
  exact ⟨digL_inj, fun e => by rw [e]⟩
 rw [← e]
 exact hr

theorem laid_out : laidOutB Tryz.prog = true := by kernel_rfl
theorem keyed35 : Keyed Tryz.prog 32 := Keyed.of_law (deep_law_laid laid_out (m := 2) (by omega) types_lt keyT35 (by rw [under35]))

def MSet (w : World) (b m : Nat) (ks : List (List Nat)) : Prop :=
 ∃ es clock, w.heap[b]? = some (.map es clock) ∧ es.size ≤ m ∧ (∀ x ∈ es.toList, x.val = .bool true ∧ ∃ d, d ∈ ks ∧ Dig d ∧ x.key = .agg (bv d).toArray) ∧ (∀ d ∈ ks, Dig d ∧ ∃ x ∈ es.toList, x.key = .agg (bv d).toArray)
theorem MSet.lt {w : World} {b m : Nat} {ks : List (List Nat)} (h : MSet w b m ks) : b < w.heap.size := by
 obtain ⟨es, clock, hb, _⟩ := h
 exact (Array.getElem?_eq_some_iff.1 hb).1
theorem MSet.keep {w w' : World} {b m : Nat} {ks : List (List Nat)} (h : MSet w b m ks) (hb : w'.heap[b]? = w.heap[b]?) : MSet w' b m ks := by
 obtain ⟨es, clock, h1, h2⟩ := h
 exact ⟨es, clock, hb.trans h1, h2⟩
theorem MSet.made (w : World) : MSet (w.alloc (.map #[] 0)) w.heap.size 0 [] := ⟨#[], 0, heap_alloc_new w _, Nat.le_refl _, by simp, by simp⟩
theorem bv_inj {x y : List Nat} (h : bv x = bv y) : x = y := by
 refine (List.map_inj_right ?_).1 h
 intro a b hab
 simp only [Value.int.injEq, true_and] at hab
 omega
theorem MSet.look {w : World} {b m : Nat} {ks : List (List Nat)} (h : MSet w b m ks) {d : List Nat} (hd : Dig d) : (Instr.lookup 179 (.map (some b)) (.agg (bv d).toArray) false).run Tryz.prog w = .ok (.bool (decide (d ∈ ks))) w := by
 obtain ⟨es, clock, hb, hsz, h1, h2⟩ := h
 have hkeys : ∀ e ∈ es.toList, ∃ l, keyOf Tryz.prog 32 e.key = some l := fun e he => by
  obtain ⟨_, d', _, hd', hk⟩ := h1 e he
  exact ⟨_, hk ▸ keyOf_dig hd'⟩
 rcases keyed35.find w (keyOf_dig hd) es.toList hkeys with ⟨hf, hn⟩ | ⟨j, e0, hf, hj, hk⟩
 · have : ¬ d ∈ ks := fun hm => by
    obtain ⟨_, x, hx, hxk⟩ := h2 d hm
    exact hn x hx hxk
   rw [decide_eq_false this]
   simp [Instr.lookup, run_underlying Tryz.underlying179, MapKept.run_getObj_map hb, keyed35.check w _ (keyOf_dig hd), hf, Result.andThen]
 · obtain ⟨hv, d', hd1, _, hk'⟩ := h1 e0 (List.mem_of_getElem? hj)
   rw [hk] at hk'
   have : d = d' := bv_inj (by simpa using hk')
   subst this
   rw [decide_eq_true hd1]
   simp [Instr.lookup, run_underlying Tryz.underlying179, MapKept.run_getObj_map hb, keyed35.check w _ (keyOf_dig hd), hf, hv, Result.andThen]
theorem MSet.put {w : World} {b m : Nat} {ks : List (List Nat)} (h : MSet w b m ks) (hm : m < maxLen) {d : List Nat} (hd : Dig d) (hn : ¬ d ∈ ks) : ∃ w', (Instr.mapUpdate 179 (.map (some b)) (.agg (bv d).toArray) (.bool true)).run Tryz.prog w = .ok () w' ∧ MSet w' b (m + 1) (ks ++ [d]) ∧ w.grownBy w' (some b) := by
 obtain ⟨es, clock, hb, hsz, h1, h2⟩ := h
 have hkeys : ∀ e ∈ es.toList, ∃ l, keyOf Tryz.prog 32 e.key = some l := fun e he => by
  obtain ⟨_, d', _, hd', hk⟩ := h1 e he
  exact ⟨_, hk ▸ keyOf_dig hd'⟩
 rcases keyed35.find w (keyOf_dig hd) es.toList hkeys with ⟨hf, _⟩ | ⟨j, e0, hf, hj, hk⟩
 · refine ⟨ChangeMaps.setBlock w b (.map (es.push ⟨.agg (bv d).toArray, .bool true, clock⟩) (clock + 1)), ?_, ⟨_, _, ChangeMaps.heap_setBlock_same hb _, by rw [Array.size_push]; omega, ?_, ?_⟩, ⟨rfl, rfl, rfl, by simp [ChangeMaps.setBlock], fun i _ hi => ChangeMaps.heap_setBlock_other hb _ (fun e => hi (by rw [e]))⟩⟩
   · have hz : ¬ maxLen ≤ es.size := by omega
     simp [Instr.mapUpdate, run_underlying Tryz.underlying179, MapKept.run_getObj_map hb, keyed35.check w false (keyOf_dig hd), hf, MapKept.run_setObj_map _ hb, Result.andThen, ChangeMaps.setBlock]
   · intro x hx
     simp only [Array.toList_push, List.mem_append, List.mem_singleton] at hx
     rcases hx with hx | rfl
     · obtain ⟨hv, d', h3, h4, h5⟩ := h1 x hx
       exact ⟨hv, d', by simp [h3], h4, h5⟩
     · exact ⟨rfl, d, by simp, hd, rfl⟩
   · intro d' hd'
     rcases List.mem_append.1 hd' with hd' | hd'
     · obtain ⟨h3, x, hx, hxk⟩ := h2 d' hd'
       exact ⟨h3, x, by simp [hx], hxk⟩
     · rw [List.mem_singleton] at hd'
       subst hd'
       exact ⟨hd, _, by simp; exact .inr rfl, rfl⟩
 · exfalso
   obtain ⟨_, d', hd1, _, hk'⟩ := h1 e0 (List.mem_of_getElem? hj)
   rw [hk] at hk'
   have : d = d' := bv_inj (by simpa using hk')
   exact hn (this ▸ hd1)
end Go.Proofs.YtnonfdcbnkdmcaaGreatDoor

