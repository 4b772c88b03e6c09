/- rows in memory: a slice whose elements are rows of s cells, each row reading as a datum slices.Clone at []api.Entry and []api.Log slices.Insert at []api.Log -/
import Derived.Test.YtnonfdcbnkdmcaaGreatDoorMem2
import Derived.Test.YtnonfdcbnkdmcaaGreatDoorSl
import Derived.Test.YtnonfdcbnkdmcaaGreatDoorCat
import Derived.Test.YtnonfdcbnkdmcaaGreatDoorChecked
import Derived.WalkKit
import Derived.WalkLawsBesides
import Derived.WalkSpells
import Derived.Lib.Hide
import Derived.Lib.SliceRun
import Derived.Deep.QuietTactic
import Derived.BigQuiet
namespace Go.Mem
open Go.RowKit

structure RowsOf {α : Type} (s : Nat) (R : α → List Value → Prop) (l : List α) (rows : List (List Value)) : Prop where
 len : rows.length = l.length
 size : ∀ r ∈ rows, r.length = s
 each : ∀ (i : Nat) (e : α) (r : List Value), l[i]? = some e → rows[i]? = some r → R e r

section
variable {α : Type} {s : Nat} {R R' : α → List Value → Prop} {l : List α} {rows : List (List Value)}
theorem flat_len : ∀ {rows : List (List Value)}, (∀ r ∈ rows, r.length = s) → rows.flatten.length = rows.length * s
 | [], _ => by simp
 | r :: t, h => by
  rw [List.flatten_cons, List.length_append, flat_len (fun x hx => h x (by simp [hx])), h r (by simp), List.length_cons, Nat.succ_mul, Nat.add_comm]
theorem flat_drop : ∀ {rows : List (List Value)} (k : Nat), (∀ r ∈ rows, r.length = s) → (rows.drop k).flatten = rows.flatten.drop (k * s)
 | rows, 0, _ => by simp
 | [], k + 1, _ => by simp
 | r :: t, k + 1, h => by
  rw [List.drop_succ_cons, flat_drop k (fun x hx => h x (by simp [hx])), List.flatten_cons, Nat.succ_mul, Nat.add_comm, ← List.drop_drop, List.drop_left' (h r (by simp))]
theorem flat_take : ∀ {rows : List (List Value)} (k : Nat), (∀ r ∈ rows, r.length = s) → (rows.take k).flatten = rows.flatten.take (k * s)
 | rows, 0, _ => by simp
 | [], k + 1, _ => by simp
 | r :: t, k + 1, h => by
  rw [List.take_succ_cons, List.flatten_cons, flat_take k (fun x hx => h x (by simp [hx])), List.flatten_cons, Nat.succ_mul, Nat.add_comm (k * s), ← h r (by simp), List.take_length_add_append]
theorem flat_get {i j : Nat} {r : List Value} {u : Value} (h : ∀ r ∈ rows, r.length = s) (hr : rows[i]? = some r) (hu : r[j]? = some u) : rows.flatten[i * s + j]? = some u := by
 have hi := (List.getElem?_eq_some_iff.1 hr).1
 have e := flat_drop i h
 rw [List.drop_eq_getElem_cons hi, (List.getElem?_eq_some_iff.1 hr).2, List.flatten_cons] at e
 rw [← List.getElem?_drop, ← e, List.getElem?_append_left (List.getElem?_eq_some_iff.1 hu).1]
 exact hu
theorem flat_set {i j : Nat} {r : List Value} (u : Value) (h : ∀ r ∈ rows, r.length = s) (hr : rows[i]? = some r) (hj : j < s) : (rows.set i (r.set j u)).flatten = rows.flatten.set (i * s + j) u := by
 have hi := (List.getElem?_eq_some_iff.1 hr).1
 have hm : r ∈ rows := List.mem_of_getElem? hr
 have e1 : rows = rows.take i ++ r :: rows.drop (i + 1) := by
  rw [← (List.getElem?_eq_some_iff.1 hr).2, ← List.drop_eq_getElem_cons hi, List.take_append_drop]
 have hl : (rows.take i).length = i := by rw [List.length_take]; omega
 have hf : (rows.take i).flatten.length = i * s := by rw [flat_len (fun x hx => h x (List.mem_of_mem_take hx)), hl]
 conv => lhs; rw [e1]
 conv => rhs; rw [e1]
 rw [List.set_append_right _ _ (by omega), hl, Nat.sub_self, List.set_cons_zero, List.flatten_append, List.flatten_append, List.flatten_cons, List.flatten_cons,
  List.set_append_right _ _ (by omega), hf, Nat.add_sub_cancel_left, List.set_append_left _ _ (by rw [h r hm]; exact hj)]

theorem RowsOf.flat (h : RowsOf s R l rows) : rows.flatten.length = l.length * s := by rw [flat_len h.size, h.len]
theorem RowsOf.imp (h : RowsOf s R l rows) (hi : ∀ e r, R e r → R' e r) : RowsOf s R' l rows := ⟨h.len, h.size, fun i e r he hr => hi e r (h.each i e r he hr)⟩
theorem RowsOf.get (h : RowsOf s R l rows) {i : Nat} {e : α} (he : l[i]? = some e) : ∃ r, rows[i]? = some r ∧ R e r ∧ r.length = s ∧ ∀ (j : Nat) u, r[j]? = some u → rows.flatten[i * s + j]? = some u := by
 have hi : i < rows.length := by rw [h.len]; exact (List.getElem?_eq_some_iff.1 he).1
 have hr : rows[i]? = some rows[i] := List.getElem?_eq_getElem hi
 exact ⟨_, hr, h.each i e _ he hr, h.size _ (List.getElem_mem hi), fun j u hu => flat_get h.size hr hu⟩
theorem RowsOf.nil : RowsOf s R [] [] := ⟨rfl, by simp, by simp⟩
theorem RowsOf.one {e : α} {r : List Value} (h : R e r) (hs : r.length = s) : RowsOf s R [e] [r] := ⟨rfl, by simp [hs], fun i e' r' he hr => by
 cases i with
 | zero => simp at he hr; subst he hr; exact h
 | succ i => simp at he⟩
theorem RowsOf.append {l' : List α} {rows' : List (List Value)} (h : RowsOf s R l rows) (h' : RowsOf s R l' rows') : RowsOf s R (l ++ l') (rows ++ rows') :=
 ⟨by rw [List.length_append, List.length_append, h.len, h'.len], fun r hr => (List.mem_append.1 hr).elim (h.size r) (h'.size r), fun i e r he hr => by
  by_cases hi : i < l.length
  · rw [List.getElem?_append_left hi] at he
    rw [List.getElem?_append_left (by rw [h.len]; exact hi)] at hr
    exact h.each i e r he hr
  · rw [List.getElem?_append_right (by omega)] at he
    rw [List.getElem?_append_right (by rw [h.len]; omega), h.len] at hr
    exact h'.each _ e r he hr⟩
theorem RowsOf.take (h : RowsOf s R l rows) (k : Nat) : RowsOf s R (l.take k) (rows.take k) :=
 ⟨by rw [List.length_take, List.length_take, h.len], fun r hr => h.size r (List.mem_of_mem_take hr), fun i e r he hr => by
  rw [List.getElem?_take] at he hr
  split at he
  · rename_i hk; rw [if_pos hk] at hr; exact h.each i e r he hr
  · cases he⟩
theorem RowsOf.drop (h : RowsOf s R l rows) (k : Nat) : RowsOf s R (l.drop k) (rows.drop k) :=
 ⟨by rw [List.length_drop, List.length_drop, h.len], fun r hr => h.size r (List.mem_of_mem_drop hr), fun i e r he hr => by
  rw [List.getElem?_drop] at he hr
  exact h.each _ e r he hr⟩
theorem RowsOf.set (h : RowsOf s R l rows) (i : Nat) {e : α} {r : List Value} (hr : R e r) (hs : r.length = s) : RowsOf s R (l.set i e) (rows.set i r) :=
 ⟨by rw [List.length_set, List.length_set, h.len], fun x hx => (List.mem_or_eq_of_mem_set hx).elim (h.size x) (fun e => e ▸ hs), fun j e' r' he hr' => by
  rw [List.getElem?_set] at he hr'
  by_cases hij : i = j
  · subst hij
    rw [if_pos rfl] at he hr'
    split at he
    · rename_i hl
      rw [if_pos (by rw [h.len]; exact hl)] at hr'
      cases he; cases hr'
      exact hr
    · cases he
  · rw [if_neg hij] at he hr'
    exact h.each j e' r' he hr'⟩
end

def BK (K : Nat → Prop) (w : World) (a : Option Addr) (n c : Nat) (l : List Nat) : Prop := (BS w a n c l ∧ ∀ ad, a = some ad → K ad.block) ∨ (n = 0 ∧ c = 0 ∧ l = [] ∧ ∃ ad, a = some ad)
structure Keeps (K : Nat → Prop) (w w' : World) : Prop where
 size : w.heap.size ≤ w'.heap.size
 block : ∀ b, b < w.heap.size → K b → w'.heap[b]? = w.heap[b]?
section
variable {w w' : World} {K K' : Nat → Prop} {a : Option Addr} {n c : Nat} {l : List Nat}
theorem Keeps.cell (h : Keeps K w w') {p : Addr} (hb : p.block < w.heap.size) (hK : K p.block) : w'.cell? p = w.cell? p := World.cell?_of_block (h.block p.block hb hK)
theorem Keeps.below (h : Below w.heap.size w w') : Keeps K w w' := ⟨h.size, fun b hb _ => h.block b hb⟩
theorem Keeps.refl (w : World) : Keeps K w w := ⟨Nat.le_refl _, fun _ _ _ => rfl⟩
theorem Keeps.trans {w2 : World} (h : Keeps K w w') (h' : Keeps K w' w2) : Keeps K w w2 := ⟨Nat.le_trans h.size h'.size, fun b hb hK => (h'.block b (Nat.lt_of_lt_of_le hb h.size) hK).trans (h.block b hb hK)⟩
theorem Keeps.grown {g : Nat} (h : w.grownBy w' (some g)) (hK : ∀ b, K b → b ≠ g) : Keeps K w w' := ⟨h.size, fun b hb k => h.block b hb (fun e => hK b k (by cases e; rfl))⟩
theorem Keeps.imp (h : Keeps K' w w') (hK : ∀ b, K b → K' b) : Keeps K w w' := ⟨h.size, fun b hb k => h.block b hb (hK b k)⟩
theorem BK.keep (h : BK K w a n c l) (hk : Keeps K w w') : BK K w' a n c l :=
 h.imp (fun h => ⟨h.1.keep hk.size fun b off e i => by
  have h1 : b < w.heap.size := h.1.block_lt ⟨b, off, none⟩ e
  have h2 : K b := h.2 ⟨b, off, none⟩ e
  exact hk.cell (p := ⟨b, i, none⟩) h1 h2, h.2⟩) id
theorem BK.imp (h : BK K w a n c l) (hK : ∀ b, b < w.heap.size → K b → K' b) : BK K' w a n c l := Or.imp (fun h => ⟨h.1, fun ad e => hK _ (h.1.block_lt _ e) (h.2 ad e)⟩) id h
theorem BK.of (h : BS w a n c l) (hs : ∀ ad, a = some ad → K ad.block) : BK K w a n c l := .inl ⟨h, hs⟩
theorem BK.bs (h : BK K w a n c l) : BW w a n c l := Or.imp And.left id h
theorem BW.bk (h : BW w a n c l) : BK (fun _ => True) w a n c l := Or.imp (fun h => ⟨h, fun _ _ => trivial⟩) id h
end

structure RS {α : Type} (s : Nat) (R : World → α → List Value → Prop) (K : Nat → Prop) (w : World) (a : Option Addr) (n c : Nat) (l : List α) : Prop where
 len : l.length = n
 sep : 0 < n → ∀ ad, a = some ad → K ad.block
 rows : ∃ rows, Sl.Reads w a n c s rows.flatten ∧ RowsOf s (R w) l rows
section
variable {α : Type} {s : Nat} {R R' : World → α → List Value → Prop} {K K' : Nat → Prop} {w w' : World} {a : Option Addr} {n c : Nat} {l : List α}
theorem RS.le (h : RS s R K w a n c l) : n ≤ c := by obtain ⟨_, h, _⟩ := h.rows; exact h.le
theorem RS.max (h : RS s R K w a n c l) : c ≤ 9223372036854775807 := by obtain ⟨_, h, _⟩ := h.rows; exact h.max
theorem RS.nil' (h : RS s R K w a n c l) (e : a = none) : n = 0 ∧ c = 0 := by obtain ⟨_, h, _⟩ := h.rows; exact h.nil e
theorem RS.block_lt (h : RS s R K w a n c l) (hn : 0 < n) : ∃ b off, a = some ⟨b, off, none⟩ ∧ b < w.heap.size ∧ K b := by
 obtain ⟨rows, hr, ho⟩ := h.rows
 obtain ⟨b, off, e, hb, _⟩ := hr.cells hn
 exact ⟨b, off, e, hb, h.sep hn _ e⟩
theorem RS.keep (h : RS s R K w a n c l) (hk : Keeps K w w') (hR : ∀ e r, R w e r → R' w' e r) : RS s R' K w' a n c l :=
 ⟨h.len, h.sep, by
  obtain ⟨rows, hr, ho⟩ := h.rows
  refine ⟨rows, ⟨hr.len, hr.le, hr.max, hr.nil, fun hn => ?_⟩, ho.imp hR⟩
  obtain ⟨b, off, e, hb, hc⟩ := hr.cells hn
  have h2 : K b := h.sep hn ⟨b, off, none⟩ e
  exact ⟨b, off, e, Nat.lt_of_lt_of_le hb hk.size, fun j u hj => (hk.cell (p := ⟨b, off + j, none⟩) hb h2).trans (hc j u hj)⟩⟩
theorem RS.imp (h : RS s R K w a n c l) (hK : ∀ b, b < w.heap.size → K b → K' b) (hR : ∀ e r, R w e r → R' w e r) : RS s R' K' w a n c l :=
 ⟨h.len, fun hn ad e => by
  obtain ⟨b, off, e', hb, hk⟩ := h.block_lt hn
  rw [e] at e'
  cases e'
  exact hK _ hb hk, by
  obtain ⟨rows, hr, ho⟩ := h.rows
  exact ⟨rows, hr, ho.imp hR⟩⟩
theorem RS.get (h : RS s R K w a n c l) {k : Nat} {e : α} (he : l[k]? = some e) : ∃ b off r, a = some ⟨b, off, none⟩ ∧ b < w.heap.size ∧ K b ∧ R w e r ∧ r.length = s ∧ w.rangeAt b (off + k * s) r := by
 obtain ⟨rows, hr, ho⟩ := h.rows
 have hk := (List.getElem?_eq_some_iff.1 he).1
 have hn : 0 < n := by have := h.len; omega
 obtain ⟨b, off, ea, hb, hc⟩ := hr.cells hn
 obtain ⟨r, _, hR, hs, hf⟩ := ho.get he
 exact ⟨b, off, r, ea, hb, h.sep hn _ ea, hR, hs, fun j u hj => by rw [Nat.add_assoc]; exact hc _ u (hf j u hj)⟩
theorem RS.nil0 (R : World → α → List Value → Prop) (K : Nat → Prop) (w : World) : RS s R K w none 0 0 [] := ⟨rfl, fun _ _ e => by (cases e), [], by simpa using Sl.Reads.nil' w s, RowsOf.nil⟩
theorem RS.cut {k : Nat} {b off : Nat} (h : RS s R K w (some ⟨b, off, none⟩) n c l) (hk : k ≤ n) : RS s R K w (if c = k then some ⟨b, off, none⟩ else some ⟨b, off + k * s, none⟩) (n - k) (c - k) (l.drop k) := by
 obtain ⟨rows, hr, ho⟩ := h.rows
 have hle := h.le
 have hmx := h.max
 refine ⟨by rw [List.length_drop, h.len], fun hn ad e => ?_, rows.drop k, ?_, ho.drop k⟩
 · have h2 : K b := h.sep (by omega) ⟨b, off, none⟩ rfl
   split at e <;> (cases e; exact h2)
 · refine ⟨by rw [(ho.drop k).flat, List.length_drop, h.len], by omega, by unfold maxLen; omega, fun e => by (split at e <;> cases e), fun hn => ?_⟩
   obtain ⟨b', off', e, hb, hc⟩ := hr.cells (by omega)
   cases e
   refine ⟨b, off + k * s, if_neg (by omega), hb, fun j u hj => ?_⟩
   rw [flat_drop k ho.size, List.getElem?_drop] at hj
   rw [Nat.add_assoc]
   exact hc _ u hj
end
end Go.Mem
namespace Go.Proofs.YtnonfdcbnkdmcaaGreatDoor
open Go.RowKit Go.Mem

theorem sizeE : (Tryz.prog.info? 75).map (·.size) = some 35 := by kernel_rfl

end Go.Proofs.YtnonfdcbnkdmcaaGreatDoor
namespace Go.Proofs.YtnonfdcbnkdmcaaGreatDoor
open Go.RowKit Go.Mem

end Go.Proofs.YtnonfdcbnkdmcaaGreatDoor

