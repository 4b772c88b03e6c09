/- slices.BinarySearchFunc at []api.Log; (*store.book).log, .entries -/
import Derived.Test.YtiionehcmoginaaDoorCop
import Derived.Test.YtiionehcmoginaaDoorSgn3
namespace Go.Proofs.YtiionehcmoginaaDoor
open Go.RowKit Go.Mem
open Go.Sto (Ent Lg St)

theorem cmp_lt {x y : Int} : Lib.compareInt x y < 0 ↔ x < y := by
  unfold Lib.compareInt; split
  · simp [*]
  · split <;> simp <;> omega
theorem cmp_eq {x y : Int} : (Lib.compareInt x y == 0) = decide (x = y) := by
  unfold Lib.compareInt
  split
  · rw [decide_eq_false (by omega)]; rfl
  · split
    · rw [decide_eq_false (by omega)]; rfl
    · rw [decide_eq_true (by omega)]; rfl

/-- the folder and the entries of a log. -/
theorem LS.cells {K : Nat → Prop} {w : World} {a : Option Addr} {n c : Nat} {l : List Lg} (h : LS K w a n c l) {k : Nat} {x : Lg} (hx : l[k]? = some x) :
    ∃ b off ea en ec, a = some ⟨b, off, none⟩ ∧ b < w.heap.size ∧ K b ∧ I64 x.folder ∧ ES K w ea en ec x.es ∧ w.cell? ⟨b, off + k * 2, none⟩ = some (.int .i64 x.folder) ∧ w.cell? ⟨b, off + k * 2 + 1, none⟩ = some (.slice ea en ec) := by
  obtain ⟨b, off, r, rfl, hb, hK, hR, _, hg⟩ := h.rs.get hx
  obtain ⟨hf, ea, en, ec, rfl, hes⟩ := hR
  exact ⟨b, off, ea, en, ec, rfl, hb, hK, hf, hes, by simpa using hg 0 _ rfl, hg 1 _ rfl⟩

/-- a book: a pointer to a store. -/
structure Book (K : Nat → Prop) (w : World) (bb : Nat) (s : St) : Prop where
  ex : ∃ t a n c, Blk w bb t (stC s a n c) ∧ SV K w a n c s
theorem Book.below {K : Nat → Prop} {w w' : World} {bb : Nat} {s : St} (h : Book K w bb s) (hb : Below w.heap.size w w') : Book K w' bb s := by
  obtain ⟨t, a, n, c, h1, h2⟩ := h.ex
  exact ⟨t, a, n, c, h1.below hb h1.lt, h2.below hb⟩
theorem Book.lt {K : Nat → Prop} {w : World} {bb : Nat} {s : St} (h : Book K w bb s) : bb < w.heap.size := by
  obtain ⟨t, a, n, c, h1, h2⟩ := h.ex
  exact h1.lt

end Go.Proofs.YtiionehcmoginaaDoor
