/- listings and roots in memory; slices.BinarySearchFunc there -/
import Derived.Test.YtlpgjdlkjahdgaaGreatDoorClR
import Derived.Test.YtlpgjdlkjahdgaaGreatDoorDrP
import Derived.Test.YtlpgjdlkjahdgaaGreatDoorRow
import Derived.Test.YtlpgjdlkjahdgaaGreatDoorShelf
namespace Go.Proofs.YtlpgjdlkjahdgaaGreatDoor
open Go.RowKit Go.Mem
open Go.Dr (Lst Rt)

def gC (x : Lst) : List Value := [.int .i64 x.dev, .int .i64 x.ver, .int .i64 x.leaf, .int .i64 x.vers, .bool x.gone]
structure OkG (x : Lst) : Prop where
  dev : I64 x.dev
  ver : I64 x.ver
  leaf : I64 x.leaf
  vers : I64 x.vers
def GV (_ : World) (x : Lst) (r : List Value) : Prop := OkG x ∧ r = gC x
theorem gC_one (x : Lst) : ∀ u ∈ gC x, u.oneCell' = true := by simp [gC, Value.oneCell']
theorem gC_length (x : Lst) : (gC x).length = 5 := rfl
/-- a slice of listings. -/
def GS (K : Nat → Prop) (w : World) (a : Option Addr) (n c : Nat) (l : List Lst) : Prop := RS 5 GV K w a n c l

def rC (x : Rt) : List Value := .int .i64 x.no :: (bv x.dig ++ (bv x.prev ++ [.int .i64 x.r, .int .i64 x.s]))
structure OkQ (x : Rt) : Prop where
  no : I64 x.no
  dig : x.dig.length = 32
  digl : ∀ u ∈ x.dig, u < 256
  prev : x.prev.length = 32
  prevl : ∀ u ∈ x.prev, u < 256
  r : I64 x.r
  s : I64 x.s
def QV (_ : World) (x : Rt) (r : List Value) : Prop := OkQ x ∧ r = rC x
theorem rC_one (x : Rt) : ∀ u ∈ rC x, u.oneCell' = true := by
  intro u hu
  simp only [rC, List.mem_cons, List.mem_append, List.not_mem_nil, or_false] at hu
  rcases hu with rfl | hu | hu | rfl | rfl
  · rfl
  · exact bv_one _ u hu
  · exact bv_one _ u hu
  · rfl
  · rfl
theorem rC_length {x : Rt} (h : OkQ x) : (rC x).length = 67 := by simp [rC, bv_length, h.dig, h.prev]
/-- a slice of roots. -/
def QS (K : Nat → Prop) (w : World) (a : Option Addr) (n c : Nat) (l : List Rt) : Prop := RS 67 QV K w a n c l
section
variable {K K' : Nat → Prop} {w w' : World} {a : Option Addr} {n c : Nat}
theorem RS.below0 {α : Type} {s : Nat} {R : World → α → List Value → Prop} {l : List α} (h : RS s R K w a n c l) (hR : ∀ e r, R w e r → R w' e r) (hb : Below w.heap.size w w') : RS s R K w' a n c l := h.keep (.below hb) hR
theorem GS.below {l : List Lst} (h : GS K w a n c l) (hb : Below w.heap.size w w') : GS K w' a n c l := RS.keep h (.below hb) fun _ _ hr => hr
theorem QS.below {l : List Rt} (h : QS K w a n c l) (hb : Below w.heap.size w w') : QS K w' a n c l := RS.keep h (.below hb) fun _ _ hr => hr
theorem GS.keep {l : List Lst} (h : GS K w a n c l) (hk : Keeps K w w') : GS K w' a n c l := RS.keep h hk fun _ _ hr => hr
theorem QS.keep {l : List Rt} (h : QS K w a n c l) (hk : Keeps K w w') : QS K w' a n c l := RS.keep h hk fun _ _ hr => hr
theorem GS.imp {l : List Lst} (h : GS K w a n c l) (hK : ∀ b, b < w.heap.size → K b → K' b) : GS K' w a n c l := RS.imp h hK fun _ _ hr => hr
theorem QS.imp {l : List Rt} (h : QS K w a n c l) (hK : ∀ b, b < w.heap.size → K b → K' b) : QS K' w a n c l := RS.imp h hK fun _ _ hr => hr
/-- the cells of a listing. -/
theorem GS.cells {l : List Lst} (h : GS K w a n c l) {k : Nat} {x : Lst} (hx : l[k]? = some x) :
    ∃ b off, a = some ⟨b, off, none⟩ ∧ b < w.heap.size ∧ K b ∧ OkG x ∧ w.rangeAt b (off + k * 5) (gC x) := by
  obtain ⟨b, off, r, rfl, hb, hK, hR, _, hg⟩ := RS.get h hx
  obtain ⟨ho, rfl⟩ := hR
  exact ⟨b, off, rfl, hb, hK, ho, hg⟩
theorem QS.cells {l : List Rt} (h : QS K w a n c l) {k : Nat} {x : Rt} (hx : l[k]? = some x) :
    ∃ b off, a = some ⟨b, off, none⟩ ∧ b < w.heap.size ∧ K b ∧ OkQ x ∧ w.rangeAt b (off + k * 67) (rC x) := by
  obtain ⟨b, off, r, rfl, hb, hK, hR, _, hg⟩ := RS.get h hx
  obtain ⟨ho, rfl⟩ := hR
  exact ⟨b, off, rfl, hb, hK, ho, hg⟩
end
end Go.Proofs.YtlpgjdlkjahdgaaGreatDoor
