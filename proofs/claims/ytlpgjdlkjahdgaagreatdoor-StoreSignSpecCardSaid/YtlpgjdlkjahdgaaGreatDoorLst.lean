/- entries and logs of a store in memory; store.clones -/
import Derived.Test.YtlpgjdlkjahdgaaGreatDoorIns
import Derived.Test.YtlpgjdlkjahdgaaGreatDoorStPlain
import Derived.Test.YtlpgjdlkjahdgaaGreatDoorTag
import Derived.Test.YtlpgjdlkjahdgaaGreatDoorShelf
namespace Go.Proofs.YtlpgjdlkjahdgaaGreatDoor
open Go.RowKit Go.Mem
open Go.Sto (Ent Lg)

def entC (e : Ent) (a : Option Addr) (n c : Nat) : List Value := .int .i64 e.kind :: (bv e.dig ++ [.slice a n c, .bool e.gone])
structure OkE (e : Ent) : Prop where
  dig : e.dig.length = 32
  lt : ∀ u ∈ e.dig, u < 256
  lo : -9223372036854775808 ≤ e.kind
  hi : e.kind ≤ 9223372036854775807
  data : e.data.length ≤ 1000000
/-- a row that reads as an entry. -/
def EV (K : Nat → Prop) (w : World) (e : Ent) (r : List Value) : Prop := OkE e ∧ ∃ a n c, r = entC e a n c ∧ BK K w a n c e.data
/-- a slice of entries. -/
structure ES (K : Nat → Prop) (w : World) (a : Option Addr) (n c : Nat) (l : List Ent) : Prop where
  rs : RS 35 (EV K) K w a n c l
  bd : n ≤ 100000

theorem entC_length {e : Ent} (h : e.dig.length = 32) (a : Option Addr) (n c : Nat) : (entC e a n c).length = 35 := by simp [entC, bv_length, h]
theorem entC_one (e : Ent) (a : Option Addr) (n c : Nat) : ∀ u ∈ entC e a n c, u.oneCell' = true := by
  intro u hu
  simp only [entC, List.mem_cons, List.mem_append, List.not_mem_nil, or_false] at hu
  rcases hu with rfl | hu | rfl | rfl
  · rfl
  · exact bv_one _ u hu
  · rfl
  · rfl
theorem entC_kind (e : Ent) (a : Option Addr) (n c : Nat) : (entC e a n c)[0]? = some (.int .i64 e.kind) := rfl
theorem entC_dig {e : Ent} {j x : Nat} (h : e.dig[j]? = some x) (a : Option Addr) (n c : Nat) : (entC e a n c)[j + 1]? = some (.int .u8 (x : Int)) := by
  have hj := (List.getElem?_eq_some_iff.1 h).1
  rw [entC, List.getElem?_cons_succ, List.getElem?_append_left (by rw [bv_length]; exact hj)]
  exact bv_get h
theorem entC_data {e : Ent} (h : e.dig.length = 32) (a : Option Addr) (n c : Nat) : (entC e a n c)[33]? = some (.slice a n c) := by
  rw [entC, List.getElem?_cons_succ, List.getElem?_append_right (by rw [bv_length, h]; exact Nat.le_refl _), bv_length, h]
  rfl
theorem entC_gone {e : Ent} (h : e.dig.length = 32) (a : Option Addr) (n c : Nat) : (entC e a n c)[34]? = some (.bool e.gone) := by
  rw [entC, List.getElem?_cons_succ, List.getElem?_append_right (by rw [bv_length, h]; omega), bv_length, h]
  rfl
theorem entC_set {e : Ent} (h : e.dig.length = 32) (a a' : Option Addr) (n c n' c' : Nat) : (entC e a n c).set 33 (.slice a' n' c') = entC e a' n' c' := by
  rw [entC, List.set_cons_succ, List.set_append_right _ _ (by rw [bv_length, h]; exact Nat.le_refl _), bv_length, h]
  rfl

section
variable {K K' : Nat → Prop} {w w' : World} {a : Option Addr} {n c : Nat} {l : List Ent}
theorem EV.keep {e : Ent} {r : List Value} (h : EV K w e r) (hk : Keeps K w w') : EV K w' e r := by
  obtain ⟨ho, a, n, c, hr, hb⟩ := h
  exact ⟨ho, a, n, c, hr, hb.keep hk⟩
theorem EV.imp {e : Ent} {r : List Value} (h : EV K w e r) (hK : ∀ b, b < w.heap.size → K b → K' b) : EV K' w e r := by
  obtain ⟨ho, a, n, c, hr, hb⟩ := h
  exact ⟨ho, a, n, c, hr, hb.imp hK⟩
theorem EV.one {e : Ent} {r : List Value} (h : EV K w e r) : ∀ u ∈ r, u.oneCell' = true := by
  obtain ⟨_, a, n, c, rfl, _⟩ := h
  exact entC_one _ _ _ _
theorem EV.len {e : Ent} {r : List Value} (h : EV K w e r) : r.length = 35 := by
  obtain ⟨ho, a, n, c, rfl, _⟩ := h
  exact entC_length ho.dig _ _ _
theorem ES.keep (h : ES K w a n c l) (hk : Keeps K w w') : ES K w' a n c l := ⟨h.rs.keep hk fun _ _ hr => hr.keep hk, h.bd⟩
theorem ES.below (h : ES K w a n c l) (hb : Below w.heap.size w w') : ES K w' a n c l := h.keep (.below hb)
theorem ES.imp (h : ES K w a n c l) (hK : ∀ b, b < w.heap.size → K b → K' b) : ES K' w a n c l := ⟨h.rs.imp hK fun _ _ hr => hr.imp hK, h.bd⟩
theorem ES.nil0 (K : Nat → Prop) (w : World) : ES K w none 0 0 [] := ⟨.nil0 _ K w, Nat.zero_le _⟩
theorem rows_one {α : Type} {s : Nat} {R : α → List Value → Prop} {l : List α} {rows : List (List Value)} (h : RowsOf s R l rows) (h1 : ∀ e r, R e r → ∀ u ∈ r, u.oneCell' = true) : ∀ u ∈ rows.flatten, u.oneCell' = true := by
  intro u hu
  obtain ⟨r, hr, hur⟩ := List.mem_flatten.1 hu
  obtain ⟨i, hi⟩ := List.mem_iff_getElem?.1 hr
  have hil := (List.getElem?_eq_some_iff.1 hi).1
  rw [h.len] at hil
  exact h1 _ _ (h.each i l[i] r (List.getElem?_eq_getElem hil) hi) u hur
end

/-- bytes.Clone. -/
theorem bclone_any (a : Option Addr) (n c : Nat) (l : List Nat) (w : World) (H : BW w a n c l) (hn : n ≤ 140737488355328) :
    Calls Tryz.prog 99 #[.slice a n c] w fun e w' => ∃ a' c', e = .returned (.slice a' n c') ∧ BK (fun b => w.heap.size ≤ b) w' a' n c' l ∧ Below w.heap.size w w' := by
  cases a with
  | none =>
    obtain ⟨rfl, rfl⟩ := H.none.nil rfl
    refine (Tryz.bytes_Clone_nil 0 0 w).mono ?_
    rintro e w' ⟨rfl, rfl⟩
    exact ⟨none, 0, rfl, BK.of H.none (fun ad e => by (cases e)), Below.refl _ _⟩
  | some ad =>
    have hlen := H.len
    refine (Tryz.bytes_Clone_at ad n c (l.map fun (x : Nat) => (x : Int)) w (by simpa using hlen) hn (fun i hi => ?_)).mono ?_
    · have hil : i < l.length := by omega
      rw [H.news i _ (bv_get (List.getElem?_eq_getElem hil))]
      simp [List.getElem?_eq_getElem hil]
    · rintro e w' ⟨v, rfl, hown, _, hb'⟩
      rw [show (l.map fun (x : Nat) => (x : Int)).map (Value.int .u8) = bv l by simp [bv]] at hown
      obtain ⟨a', c', rfl, hB⟩ := BS.own hown H.lt
      refine ⟨a', c', rfl, BK.of hB (fun ad e => ?_), hb'⟩
      obtain ⟨_, _, hv, _, h3⟩ := Sl.of_owns hown
      cases hv
      exact (h3 ad e).1
end Go.Proofs.YtlpgjdlkjahdgaaGreatDoor
