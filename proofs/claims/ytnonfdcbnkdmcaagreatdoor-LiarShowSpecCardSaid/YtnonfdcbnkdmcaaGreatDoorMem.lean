/- words for memory: a block that is known whole; bytes and words as cells -/
import Derived.Below
import Derived.Laws.OwnMore
import Derived.Laws.Rows
import Derived.WalkKit
import Derived.Lib.Hide
import Derived.Deep.Draws
namespace Go.Mem
open Go.RowKit

def bv (l : List Nat) : List Value := l.map fun (x : Nat) => .int .u8 (x : Int)
def wv (l : List Nat) : List Value := l.map fun (x : Nat) => .int .u32 (x : Int)
theorem bv_length (l : List Nat) : (bv l).length = l.length := by simp [bv]
theorem wv_length (l : List Nat) : (wv l).length = l.length := by simp [wv]
theorem bv_append (a b : List Nat) : bv (a ++ b) = bv a ++ bv b := by simp [bv]
theorem bv_get {l : List Nat} {i x : Nat} (h : l[i]? = some x) : (bv l)[i]? = some (.int .u8 (x : Int)) := by simp [bv, h]
theorem wv_get {l : List Nat} {i x : Nat} (h : l[i]? = some x) : (wv l)[i]? = some (.int .u32 (x : Int)) := by simp [wv, h]
theorem bv_set (l : List Nat) (i x : Nat) : (bv l).set i (.int .u8 (x : Int)) = bv (l.set i x) := by simp [bv, List.map_set]
theorem wv_set (l : List Nat) (i x : Nat) : (wv l).set i (.int .u32 (x : Int)) = wv (l.set i x) := by simp [wv, List.map_set]
theorem bv_one (l : List Nat) : ∀ u ∈ bv l, u.oneCell' = true := by
 intro u hu; simp only [bv, List.mem_map] at hu; obtain ⟨x, _, rfl⟩ := hu; rfl
def Blk (w : World) (g : Nat) (t : TypeId) (cs : List Value) : Prop := w.heap[g]? = some (.cells cs.toArray t (0, 0))

section
variable {w w' : World} {g : Nat} {t : TypeId} {cs : List Value}
theorem Blk.lt (h : Blk w g t cs) : g < w.heap.size := (Array.getElem?_eq_some_iff.1 h).1
theorem Blk.at_ (h : Blk w g t cs) {i : Nat} {x : Value} (hx : cs[i]? = some x) : w.cell? ⟨g, i, none⟩ = some x := by
 rw [cell_of_row w g i _ t (0, 0) h]; simpa using hx
theorem Blk.frozen (h : Blk w g t cs) (i : Nat) : w.frozen? ⟨g, i, none⟩ = false := frozen_of_row w g i _ t h
theorem Blk.new (w : World) (t : TypeId) (cs : List Value) : Blk (w.alloc (.cells cs.toArray t)) w.heap.size t cs := heap_alloc_new w _
theorem Blk.drewN (h : Blk w g t cs) (n : Nat) : Blk (w.drewN n) g t cs := h
theorem Blk.alloc (h : Blk w g t cs) (o : Obj) : Blk (w.alloc o) g t cs := (Below.heap_alloc w o g h.lt).trans h
theorem Blk.set (h : Blk w g t cs) (i : Nat) (u : Value) : Blk (w.setCell ⟨g, i, none⟩ u) g t (cs.set i u) := by
 unfold Blk at h ⊢
 simp [World.setCell, Array.getElem?_modify, h]
theorem Blk.far (h : Blk w g t cs) {p : Addr} (hp : g ≠ p.block) (u : Value) : Blk (w.setCell p u) g t cs := (Below.heap_setCell w p u g hp).trans h
theorem Blk.below {B : Nat} (h : Blk w g t cs) (hb : Below B w w') (hg : g < B) : Blk w' g t cs := (hb.block g hg).trans h
theorem Blk.grown {row : Option Nat} (h : Blk w g t cs) (hb : w.grownBy w' row) (hg : some g ≠ row) : Blk w' g t cs := (hb.block g h.lt hg).trans h
end

theorem below_drewN (w : World) (n B : Nat) : Below B w (w.drewN n) := ⟨rfl, rfl, rfl, Nat.le_refl _, fun _ _ => rfl⟩
theorem grown_drewN {a w : World} {row : Option Nat} (h : a.grownBy w row) (n : Nat) : a.grownBy (w.drewN n) row := ⟨h.os, h.tape, h.output, h.size, h.block⟩
theorem grown_set {a w : World} {g : Nat} (h : a.grownBy w (some g)) {p : Addr} (hp : p.block = g ∨ a.heap.size ≤ p.block) (u : Value) : a.grownBy (w.setCell p u) (some g) :=
 ⟨h.os, h.tape, h.output, by simpa [World.setCell] using h.size, fun i hi hne => (Below.heap_setCell w p u i (by
  rintro rfl
  rcases hp with hp | hp
  · exact hne (by rw [hp])
  · omega)).trans (h.block i hi hne)⟩
theorem grown_of_below {a w : World} (h : Below a.heap.size a w) (row : Option Nat) : a.grownBy w row := ⟨h.os, h.tape, h.output, h.size, fun i hi _ => h.block i hi⟩
theorem grown_trans {a b c : World} {g : Nat} (h : a.grownBy b (some g)) (k : b.grownBy c (some g)) : a.grownBy c (some g) :=
 ⟨k.os.trans h.os, k.tape.trans h.tape, k.output.trans h.output, Nat.le_trans h.size k.size, fun i hi hne => (k.block i (Nat.lt_of_lt_of_le hi h.size) hne).trans (h.block i hi hne)⟩
theorem below_grown {a b c : World} {g B : Nat} (h : Below B a b) (k : b.grownBy c (some g)) (hB : B ≤ b.heap.size) (hg : B ≤ g) : Below B a c :=
 h.grown k hB (fun r e => by cases e; exact hg)

structure BS (w : World) (a : Option Addr) (n c : Nat) (l : List Nat) : Prop where
 len : l.length = n
 le : n ≤ c
 max : c ≤ 9223372036854775807
 nil : a = none → n = 0 ∧ c = 0
 cells : ∀ ad, a = some ad → ∃ b off, ad = ⟨b, off, none⟩ ∧ b < w.heap.size ∧ ∀ (i : Nat) x, l[i]? = some x → w.cell? ⟨b, off + i, none⟩ = some (.int .u8 (x : Int))
 lt : ∀ x ∈ l, x < 256

section
variable {w w' : World} {a : Option Addr} {n c : Nat} {l : List Nat}
theorem BS.keep (h : BS w a n c l) (hs : w.heap.size ≤ w'.heap.size) (hc : ∀ b off, a = some ⟨b, off, none⟩ → ∀ i, w'.cell? ⟨b, i, none⟩ = w.cell? ⟨b, i, none⟩) : BS w' a n c l :=
 ⟨h.len, h.le, h.max, h.nil, fun ad e => by
  obtain ⟨b, off, e1, hb, hx⟩ := h.cells ad e
  subst e1
  exact ⟨b, off, rfl, Nat.lt_of_lt_of_le hb hs, fun i x hi => (hc b off e _).trans (hx i x hi)⟩, h.lt⟩
theorem BS.below (h : BS w a n c l) (hb : Below w.heap.size w w') : BS w' a n c l := h.keep hb.size fun b off e i => by
 obtain ⟨b', off', e', hlt, _⟩ := h.cells _ e
 cases e'
 exact hb.cell (p := ⟨b, i, none⟩) hlt
theorem BS.grown {g : Nat} (h : BS w a n c l) (hg : w.grownBy w' (some g)) (hne : ∀ ad, a = some ad → ad.block ≠ g) : BS w' a n c l := h.keep hg.size fun b off e i => by
 obtain ⟨b', off', e', hlt, _⟩ := h.cells _ e
 cases e'
 exact World.cell?_of_block (hg.block b hlt (fun e2 => hne _ e (by cases e2; rfl)))
theorem BS.block_lt (h : BS w a n c l) : ∀ ad, a = some ad → ad.block < w.heap.size := fun ad e => by
 obtain ⟨b, off, rfl, hb, _⟩ := h.cells ad e
 exact hb
end
end Go.Mem

