/- logs and stores in memory; store.copied -/
import Derived.Test.YtlpgjdlkjahdgaaGreatDoorLst2
import Derived.Deep.RegionHeld3
import Derived.Laws.ResultCell
namespace Go.Proofs.YtlpgjdlkjahdgaaGreatDoor
open Go.RowKit Go.Mem
open Go.Sto (Ent Lg St)

def I64 (x : Int) : Prop := -9223372036854775808 ≤ x ∧ x ≤ 9223372036854775807
def logC (f : Int) (a : Option Addr) (n c : Nat) : List Value := [.int .i64 f, .slice a n c]
/-- a row that reads as a log. -/
def LV (K : Nat → Prop) (w : World) (x : Lg) (r : List Value) : Prop := I64 x.folder ∧ ∃ a n c, r = logC x.folder a n c ∧ ES K w a n c x.es
structure LS (K : Nat → Prop) (w : World) (a : Option Addr) (n c : Nat) (l : List Lg) : Prop where
  rs : RS 2 (LV K) K w a n c l
  bd : n ≤ 100000
def stC (s : St) (a : Option Addr) (n c : Nat) : List Value := [.int .i64 s.id, .int .i64 s.priv, .slice a n c]
/-- a value that reads as a store. -/
structure SV (K : Nat → Prop) (w : World) (a : Option Addr) (n c : Nat) (s : St) : Prop where
  ls : LS K w a n c s.logs
  id : I64 s.id
  priv : I64 s.priv

section
variable {K K' : Nat → Prop} {w w' : World} {a : Option Addr} {n c : Nat} {l : List Lg} {s : St}
theorem LV.keep {x : Lg} {r : List Value} (h : LV K w x r) (hk : Keeps K w w') : LV K w' x r := by
  obtain ⟨ho, a, n, c, hr, hb⟩ := h
  exact ⟨ho, a, n, c, hr, hb.keep hk⟩
theorem LV.imp {x : Lg} {r : List Value} (h : LV K w x r) (hK : ∀ b, b < w.heap.size → K b → K' b) : LV K' w x r := by
  obtain ⟨ho, a, n, c, hr, hb⟩ := h
  exact ⟨ho, a, n, c, hr, hb.imp hK⟩
theorem LV.one {x : Lg} {r : List Value} (h : LV K w x r) : ∀ u ∈ r, u.oneCell' = true := by
  obtain ⟨_, a, n, c, rfl, _⟩ := h
  intro u hu
  simp only [logC, List.mem_cons, List.not_mem_nil, or_false] at hu
  rcases hu with rfl | rfl <;> rfl
theorem LS.keep (h : LS K w a n c l) (hk : Keeps K w w') : LS K w' a n c l := ⟨h.rs.keep hk fun _ _ hr => hr.keep hk, h.bd⟩
theorem LS.below (h : LS K w a n c l) (hb : Below w.heap.size w w') : LS K w' a n c l := h.keep (.below hb)
theorem LS.imp (h : LS K w a n c l) (hK : ∀ b, b < w.heap.size → K b → K' b) : LS K' w a n c l := ⟨h.rs.imp hK fun _ _ hr => hr.imp hK, h.bd⟩
theorem LS.nil0 (K : Nat → Prop) (w : World) : LS K w none 0 0 [] := ⟨.nil0 _ K w, Nat.zero_le _⟩
theorem SV.below (h : SV K w a n c s) (hb : Below w.heap.size w w') : SV K w' a n c s := ⟨h.ls.below hb, h.id, h.priv⟩
theorem SV.keep (h : SV K w a n c s) (hk : Keeps K w w') : SV K w' a n c s := ⟨h.ls.keep hk, h.id, h.priv⟩
theorem SV.imp (h : SV K w a n c s) (hK : ∀ b, b < w.heap.size → K b → K' b) : SV K' w a n c s := ⟨h.ls.imp hK, h.id, h.priv⟩
end

end Go.Proofs.YtlpgjdlkjahdgaaGreatDoor
