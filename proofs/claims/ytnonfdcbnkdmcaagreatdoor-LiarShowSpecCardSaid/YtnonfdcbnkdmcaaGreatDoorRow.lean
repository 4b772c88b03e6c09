/- rows in memory: a slice whose elements are rows of s cells, each row reading as a datum slices.Clone at []api.Entry and []api.Log slices.Insert at []api.Log -/
import Derived.Test.YtnonfdcbnkdmcaaGreatDoorMem2
import Derived.Test.YtnonfdcbnkdmcaaGreatDoorSl
import Derived.Test.YtnonfdcbnkdmcaaGreatDoorCat
import Derived.Test.YtnonfdcbnkdmcaaGreatDoorChecked
import Derived.WalkKit
import Derived.WalkLawsBesides
import Derived.WalkSpells
import Derived.Lib.Hide
import Derived.Lib.SliceRun
import Derived.Deep.QuietTactic
import Derived.BigQuiet
namespace Go.Mem
open Go.RowKit

structure RowsOf {α : Type} (s : Nat) (R : α → List Value → Prop) (l : List α) (rows : List (List Value)) : Prop where
 len : rows.length = l.length
 size : ∀ r ∈ rows, r.length = s
 each : ∀ (i : Nat) (e : α) (r : List Value), l[i]? = some e → rows[i]? = some r → R e r

section
variable {α : Type} {s : Nat} {R R' : α → List Value → Prop} {l : List α} {rows : List (List Value)}
theorem flat_len : ∀ {rows : List (List Value)}, (∀ r ∈ rows, r.length = s) → rows.flatten.length = rows.length * s
 | [], _ => by simp
 | r :: t, h => by
  rw [List.flatten_cons, List.length_append, flat_len (fun x hx => h x (by simp [hx])), h r (by simp), List.length_cons, Nat.succ_mul, Nat.add_comm]
theorem flat_drop : ∀ {rows : List (List Value)} (k : Nat), (∀ r ∈ rows, r.length = s) → (rows.drop k).flatten = rows.flatten.drop (k * s)
 | rows, 0, _ => by simp
 | [], k + 1, _ => by simp
 | r :: t, k + 1, h => by
  rw [List.drop_succ_cons, flat_drop k (fun x hx => h x (by simp [hx])), List.flatten_cons, Nat.succ_mul, Nat.add_comm, ← List.drop_drop, List.drop_left' (h r (by simp))]
theorem flat_take : ∀ {rows : List (List Value)} (k : Nat), (∀ r ∈ rows, r.length = s) → (rows.take k).flatten = rows.flatten.take (k * s)
 | rows, 0, _ => by simp
 | [], k + 1, _ => by simp
 | r :: t, k + 1, h => by
  rw [List.take_succ_cons, List.flatten_cons, flat_take k (fun x hx => h x (by simp [hx])), List.flatten_cons, Nat.succ_mul, Nat.add_comm (k * s), ← h r (by simp), List.take_length_add_append]
theorem flat_get {i j : Nat} {r : List Value} {u : Value} (h : ∀ r ∈ rows, r.length = s) (hr : rows[i]? = some r) (hu : r[j]? = some u) : rows.flatten[i * s + j]? = some u := by
 have hi := (List.getElem?_eq_some_iff.1 hr).1
 have e := flat_drop i h
 rw [List.drop_eq_getElem_cons hi, (List.getElem?_eq_some_iff.1 hr).2, List.flatten_cons] at e
 rw [← List.getElem?_drop, ← e, List.getElem?_append_left (List.getElem?_eq_some_iff.1 hu).1]
 exact hu
theorem flat_set {i j : Nat} {r : List Value} (u : Value) (h : ∀ r ∈ rows, r.length = s) (hr : rows[i]? = some r) (hj : j < s) : (rows.set i (r.set j u)).flatten = rows.flatten.set (i * s + j) u := by
 have hi := (List.getElem?_eq_some_iff.1 hr).1
 have hm : r ∈ rows := List.mem_of_getElem? hr
 have e1 : rows = rows.take i ++ r :: rows.drop (i + 1) := by
  rw [← (List.getElem?_eq_some_iff.1 hr).2, ← List.drop_eq_getElem_cons hi, List.take_append_drop]
 have hl : (rows.take i).length = i := by rw [List.length_take]; omega
 have hf : (rows.take i).flatten.length = i * s := by rw [flat_len (fun x hx => h x (List.mem_of_mem_take hx)), hl]
 conv => lhs; rw [e1]
 conv => rhs; rw [e1]
 rw [List.set_append_right _ _ (by omega), hl, Nat.sub_self, List.set_cons_zero, List.flatten_append, List.flatten_append, List.flatten_cons, List.flatten_cons,
  List.set_append_right _ _ (by omega), hf, Nat.add_sub_cancel_left, List.set_append_left _ _ (by rw [h r hm]; exact hj)]

theorem RowsOf.flat (h : RowsOf s R l rows) : rows.flatten.length = l.length * s := by rw [flat_len h.size, h.len]
theorem RowsOf.imp (h : RowsOf s R l rows) (hi : ∀ e r, R e r → R' e r) : RowsOf s R' l rows := ⟨h.len, h.size, fun i e r he hr => hi e r (h.each i e r he hr)⟩
theorem RowsOf.get (h : RowsOf s R l rows) {i : Nat} {e : α} (he : l[i]? = some e) : ∃ r, rows[i]? = some r ∧ R e r ∧ r.length = s ∧ ∀ (j : Nat) u, r[j]? = some u → rows.flatten[i * s + j]? = some u := by
 have hi : i < rows.length := by rw [h.len]; exact (List.getElem?_eq_some_iff.1 he).1
 have hr : rows[i]? = some rows[i] := List.getElem?_eq_getElem hi
 exact ⟨_, hr, h.each i e _ he hr, h.size _ (List.getElem_mem hi), fun j u hu => flat_get h.size hr hu⟩
theorem RowsOf.nil : RowsOf s R [] [] := ⟨rfl, by simp, by simp⟩
theorem RowsOf.one {e : α} {r : List Value} (h : R e r) (hs : r.length = s) : RowsOf s R [e] [r] := ⟨rfl, by simp [hs], fun i e' r' he hr => by
 cases i with
 | zero => simp at he hr; subst he hr; exact h
 | succ i => simp at he⟩
theorem RowsOf.append {l' : List α} {rows' : List (List Value)} (h : RowsOf s R l rows) (h' : RowsOf s R l' rows') : RowsOf s R (l ++ l') (rows ++ rows') :=
 ⟨by rw [List.length_append, List.length_append, h.len, h'.len], fun r hr => (List.mem_append.1 hr).elim (h.size r) (h'.size r), fun i e r he hr => by
  by_cases hi : i < l.length
  · rw [List.getElem?_append_left hi] at he
    rw [List.getElem?_append_left (by rw [h.len]; exact hi)] at hr
    exact h.each i e r he hr
  · rw [List.getElem?_append_right (by omega)] at he
    rw [List.getElem?_append_right (by rw [h.len]; omega), h.len] at hr
    exact h'.each _ e r he hr⟩
theorem RowsOf.take (h : RowsOf s R l rows) (k : Nat) : RowsOf s R (l.take k) (rows.take k) :=
 ⟨by rw [List.length_take, List.length_take, h.len], fun r hr => h.size r (List.mem_of_mem_take hr), fun i e r he hr => by
  rw [List.getElem?_take] at he hr
  split at he
  · rename_i hk; rw [if_pos hk] at hr; exact h.each i e r he hr
  · cases he⟩
theorem RowsOf.drop (h : RowsOf s R l rows) (k : Nat) : RowsOf s R (l.drop k) (rows.drop k) :=
 ⟨by rw [List.length_drop, List.length_drop, h.len], fun r hr => h.size r (List.mem_of_mem_drop hr), fun i e r he hr => by
  rw [List.getElem?_drop] at he hr
  exact h.each _ e r he hr⟩
theorem RowsOf.set (h : RowsOf s R l rows) (i : Nat) {e : α} {r : List Value} (hr : R e r) (hs : r.length = s) : RowsOf s R (l.set i e) (rows.set i r) :=
 ⟨by rw [List.length_set, List.length_set, h.len], fun x hx => (List.mem_or_eq_of_mem_set hx).elim (h.size x) (fun e => e ▸ hs), fun j e' r' he hr' => by
  rw [List.getElem?_set] at he hr'
  by_cases hij : i = j
  · subst hij
    rw [if_pos rfl] at he hr'
    split at he
    · rename_i hl
      rw [if_pos (by rw [h.len]; exact hl)] at hr'
      cases he; cases hr'
      exact hr
    · cases he
  · rw [if_neg hij] at he hr'
    exact h.each j e' r' he hr'⟩
end

def BK (K : Nat → Prop) (w : World) (a : Option Addr) (n c : Nat) (l : List Nat) : Prop := (BS w a n c l ∧ ∀ ad, a = some ad → K ad.block) ∨ (n = 0 ∧ c = 0 ∧ l = [] ∧ ∃ ad, a = some ad)
structure Keeps (K : Nat → Prop) (w w' : World) : Prop where
 size : w.heap.size ≤ w'.heap.size
 block : ∀ b, b < w.heap.size → K b → w'.heap[b]? = w.heap[b]?
section
variable {w w' : World} {K K' : Nat → Prop} {a : Option Addr} {n c : Nat} {l : List Nat}
theorem Keeps.cell (h : Keeps K w w') {p : Addr} (hb : p.block < w.heap.size) (hK : K p.block) : w'.cell? p = w.cell? p := World.cell?_of_block (h.block p.block hb hK)
theorem Keeps.below (h : Below w.heap.size w w') : Keeps K w w' := ⟨h.size, fun b hb _ => h.block b hb⟩
theorem Keeps.refl (w : World) : Keeps K w w := ⟨Nat.le_refl _, fun _ _ _ => rfl⟩
theorem Keeps.trans {w2 : World} (h : Keeps K w w') (h' : Keeps K w' w2) : Keeps K w w2 := ⟨Nat.le_trans h.size h'.size, fun b hb hK => (h'.block b (Nat.lt_of_lt_of_le hb h.size) hK).trans (h.block b hb hK)⟩
theorem Keeps.grown {g : Nat} (h : w.grownBy w' (some g)) (hK : ∀ b, K b → b ≠ g) : Keeps K w w' := ⟨h.size, fun b hb k => h.block b hb (fun e => hK b k (by cases e; rfl))⟩
theorem Keeps.imp (h : Keeps K' w w') (hK : ∀ b, K b → K' b) : Keeps K w w' := ⟨h.size, fun b hb k => h.block b hb (hK b k)⟩
theorem BK.keep (h : BK K w a n c l) (hk : Keeps K w w') : BK K w' a n c l :=
 h.imp (fun h => ⟨h.1.keep hk.size fun b off e i => by
  have h1 : b < w.heap.size := h.1.block_lt ⟨b, off, none⟩ e
  have h2 : K b := h.2 ⟨b, off, none⟩ e
  exact hk.cell (p := ⟨b, i, none⟩) h1 h2, h.2⟩) id
theorem BK.imp (h : BK K w a n c l) (hK : ∀ b, b < w.heap.size → K b → K' b) : BK K' w a n c l := Or.imp (fun h => ⟨h.1, fun ad e => hK _ (h.1.block_lt _ e) (h.2 ad e)⟩) id h
theorem BK.of (h : BS w a n c l) (hs : ∀ ad, a = some ad → K ad.block) : BK K w a n c l := .inl ⟨h, hs⟩
theorem BK.bs (h : BK K w a n c l) : BW w a n c l := Or.imp And.left id h
theorem BW.bk (h : BW w a n c l) : BK (fun _ => True) w a n c l := Or.imp (fun h => ⟨h, fun _ _ => trivial⟩) id h
end

structure RS {α : Type} (s : Nat) (R : World → α → List Value → Prop) (K : Nat → Prop) (w : World) (a : Option Addr) (n c : Nat) (l : List α) : Prop where
 len : l.length = n
 sep : 0 < n → ∀ ad, a = some ad → K ad.block
 rows : ∃ rows, Sl.Reads w a n c s rows.flatten ∧ RowsOf s (R w) l rows
section
variable {α : Type} {s : Nat} {R R' : World → α → List Value → Prop} {K K' : Nat → Prop} {w w' : World} {a : Option Addr} {n c : Nat} {l : List α}
theorem RS.le (h : RS s R K w a n c l) : n ≤ c := by obtain ⟨_, h, _⟩ := h.rows; exact h.le
theorem RS.max (h : RS s R K w a n c l) : c ≤ 9223372036854775807 := by obtain ⟨_, h, _⟩ := h.rows; exact h.max
theorem RS.nil' (h : RS s R K w a n c l) (e : a = none) : n = 0 ∧ c = 0 := by obtain ⟨_, h, _⟩ := h.rows; exact h.nil e
theorem RS.block_lt (h : RS s R K w a n c l) (hn : 0 < n) : ∃ b off, a = some ⟨b, off, none⟩ ∧ b < w.heap.size ∧ K b := by
 obtain ⟨rows, hr, ho⟩ := h.rows
 obtain ⟨b, off, e, hb, _⟩ := hr.cells hn
 exact ⟨b, off, e, hb, h.sep hn _ e⟩
theorem RS.keep (h : RS s R K w a n c l) (hk : Keeps K w w') (hR : ∀ e r, R w e r → R' w' e r) : RS s R' K w' a n c l :=
 ⟨h.len, h.sep, by
  obtain ⟨rows, hr, ho⟩ := h.rows
  refine ⟨rows, ⟨hr.len, hr.le, hr.max, hr.nil, fun hn => ?_⟩, ho.imp hR⟩
  obtain ⟨b, off, e, hb, hc⟩ := hr.cells hn
  have h2 : K b := h.sep hn ⟨b, off, none⟩ e
  exact ⟨b, off, e, Nat.lt_of_lt_of_le hb hk.size, fun j u hj => (hk.cell (p := ⟨b, off + j, none⟩) hb h2).trans (hc j u hj)⟩⟩
theorem RS.imp (h : RS s R K w a n c l) (hK : ∀ b, b < w.heap.size → K b → K' b) (hR : ∀ e r, R w e r → R' w e r) : RS s R' K' w a n c l :=
 ⟨h.len, fun hn ad e => by
  obtain ⟨b, off, e', hb, hk⟩ := h.block_lt hn
  rw [e] at e'
  cases e'
  exact hK _ hb hk, by
  obtain ⟨rows, hr, ho⟩ := h.rows
  exact ⟨rows, hr, ho.imp hR⟩⟩
theorem RS.get (h : RS s R K w a n c l) {k : Nat} {e : α} (he : l[k]? = some e) : ∃ b off r, a = some ⟨b, off, none⟩ ∧ b < w.heap.size ∧ K b ∧ R w e r ∧ r.length = s ∧ w.rangeAt b (off + k * s) r := by
 obtain ⟨rows, hr, ho⟩ := h.rows
 have hk := (List.getElem?_eq_some_iff.1 he).1
 have hn : 0 < n := by have := h.len; omega
 obtain ⟨b, off, ea, hb, hc⟩ := hr.cells hn
 obtain ⟨r, _, hR, hs, hf⟩ := ho.get he
 exact ⟨b, off, r, ea, hb, h.sep hn _ ea, hR, hs, fun j u hj => by rw [Nat.add_assoc]; exact hc _ u (hf j u hj)⟩
theorem RS.nil0 (R : World → α → List Value → Prop) (K : Nat → Prop) (w : World) : RS s R K w none 0 0 [] := ⟨rfl, fun _ _ e => by (cases e), [], by simpa using Sl.Reads.nil' w s, RowsOf.nil⟩
theorem RS.cut {k : Nat} {b off : Nat} (h : RS s R K w (some ⟨b, off, none⟩) n c l) (hk : k ≤ n) : RS s R K w (if c = k then some ⟨b, off, none⟩ else some ⟨b, off + k * s, none⟩) (n - k) (c - k) (l.drop k) := by
 obtain ⟨rows, hr, ho⟩ := h.rows
 have hle := h.le
 have hmx := h.max
 refine ⟨by rw [List.length_drop, h.len], fun hn ad e => ?_, rows.drop k, ?_, ho.drop k⟩
 · have h2 : K b := h.sep (by omega) ⟨b, off, none⟩ rfl
   split at e <;> (cases e; exact h2)
 · refine ⟨by rw [(ho.drop k).flat, List.length_drop, h.len], by omega, by unfold maxLen; omega, fun e => by (split at e <;> cases e), fun hn => ?_⟩
   obtain ⟨b', off', e, hb, hc⟩ := hr.cells (by omega)
   cases e
   refine ⟨b, off + k * s, if_neg (by omega), hb, fun j u hj => ?_⟩
   rw [flat_drop k ho.size, List.getElem?_drop] at hj
   rw [Nat.add_assoc]
   exact hc _ u hj
end
end Go.Mem
namespace Go.Proofs.YtnonfdcbnkdmcaaGreatDoor
open Go.RowKit Go.Mem

theorem infoE : (Tryz.prog.info? 75).map (fun i => (i.zero, i.size, i.bytes)) = some (some (.agg #[.int .i64 0, .int .u8 0, .int .u8 0, .int .u8 0, .int .u8 0, .int .u8 0, .int .u8 0, .int .u8 0, .int .u8 0, .int .u8 0, .int .u8 0, .int .u8 0, .int .u8 0, .int .u8 0, .int .u8 0, .int .u8 0, .int .u8 0, .int .u8 0, .int .u8 0, .int .u8 0, .int .u8 0, .int .u8 0, .int .u8 0, .int .u8 0, .int .u8 0, .int .u8 0, .int .u8 0, .int .u8 0, .int .u8 0, .int .u8 0, .int .u8 0, .int .u8 0, .int .u8 0, .slice none 0 0, .bool false]), 35, 72) := by kernel_rfl
theorem sizeE : (Tryz.prog.info? 75).map (·.size) = some 35 := by kernel_rfl

set_option maxRecDepth 20000 in
set_option maxHeartbeats 1000000 in
theorem cloneE_any (a : Option Addr) (n c : Nat) (xs : List Value) (w : World) (H : Sl.Reads w a n c 35 xs) (h1 : ∀ u ∈ xs, u.oneCell' = true) (hb : n * 72 ≤ 140737488355328) :
 Calls Tryz.prog 78 #[.slice a n c] w (Sl.Owns w.heap.size 75 35 n xs w) := by
 have hnil := fun (W : World) => Lib.run_eql_slice_nil (P := Tryz.prog) W 30 75 a n c 0 0 Tryz.underlying30
 obtain ⟨i0, hi, hz0, hz1, hz2⟩ := info_parts infoE
 have hlen := H.len
 cases a with
 | none =>
  obtain ⟨rfl, rfl⟩ := H.nil rfl
  have hx : xs = [] := List.eq_nil_of_length_eq_zero (by simpa using hlen)
  subst hx
  clear hlen
  go_enter Tryz.func78, Tryz.ntmps78
  go_wp2
  go_ret
  exact ⟨_, rfl, World.ownsRow_nil _ _ _ _, Below.refl _ _⟩
 | some ad =>
  have hl := Lib.hid hlen
  clear hlen
  have hb' := Lib.hid hb
  clear hb
  go_enter Tryz.func78, Tryz.ntmps78
  go_wp2_with (at_builtin; refine wpList_append_own _ rfl _ _ 30 rfl w.heap.size 75 i0 _ 35 72 Tryz.underlying30 hi hz0 hz1 hz2 rfl (by decide) _ _ _ rfl (World.ownsRow_made (e := 75) (size := 35) w #[] 0 (Nat.le_refl _) (by unfold maxLen; omega) rfl) ad n c xs rfl hl.out (H.below (w' := w.alloc (.cells #[] 75)) ((Below.refl _ w).alloc (Nat.le_refl _) _) (Nat.le_refl _)).news h1 (by have := hb'.out; unfold maxLen; omega) (by have := hb'.out; omega) (by simp) ?_; intro v' w1 hown hgrow _)
  go_ret
  refine ⟨v', rfl, by simpa using hown, ((Below.refl _ w).alloc (Nat.le_refl _) _).grown hgrow (by simp) (fun k e => by cases e; exact Nat.le_refl _)⟩

theorem infoL : (Tryz.prog.info? 121).map (fun i => (i.zero, i.size, i.bytes)) = some (some (.agg #[.int .i64 0, .slice none 0 0]), 2, 32) := by kernel_rfl
theorem sizeL : (Tryz.prog.info? 121).map (·.size) = some 2 := by kernel_rfl

set_option maxRecDepth 20000 in
set_option maxHeartbeats 1000000 in
theorem cloneL_any (a : Option Addr) (n c : Nat) (xs : List Value) (w : World) (H : Sl.Reads w a n c 2 xs) (h1 : ∀ u ∈ xs, u.oneCell' = true) (hb : n * 32 ≤ 140737488355328) :
 Calls Tryz.prog 111 #[.slice a n c] w (Sl.Owns w.heap.size 121 2 n xs w) := by
 have hnil := fun (W : World) => Lib.run_eql_slice_nil (P := Tryz.prog) W 22 121 a n c 0 0 Tryz.underlying22
 obtain ⟨i0, hi, hz0, hz1, hz2⟩ := info_parts infoL
 have hlen := H.len
 cases a with
 | none =>
  obtain ⟨rfl, rfl⟩ := H.nil rfl
  have hx : xs = [] := List.eq_nil_of_length_eq_zero (by simpa using hlen)
  subst hx
  clear hlen
  go_enter Tryz.func111, Tryz.ntmps111
  go_wp2
  go_ret
  exact ⟨_, rfl, World.ownsRow_nil _ _ _ _, Below.refl _ _⟩
 | some ad =>
  have hl := Lib.hid hlen
  clear hlen
  have hb' := Lib.hid hb
  clear hb
  go_enter Tryz.func111, Tryz.ntmps111
  go_wp2_with (at_builtin; refine wpList_append_own _ rfl _ _ 22 rfl w.heap.size 121 i0 _ 2 32 Tryz.underlying22 hi hz0 hz1 hz2 rfl (by decide) _ _ _ rfl (World.ownsRow_made (e := 121) (size := 2) w #[] 0 (Nat.le_refl _) (by unfold maxLen; omega) rfl) ad n c xs rfl hl.out (H.below (w' := w.alloc (.cells #[] 121)) ((Below.refl _ w).alloc (Nat.le_refl _) _) (Nat.le_refl _)).news h1 (by have := hb'.out; unfold maxLen; omega) (by have := hb'.out; omega) (by simp) ?_; intro v' w1 hown hgrow _)
  go_ret
  refine ⟨v', rfl, by simpa using hown, ((Below.refl _ w).alloc (Nat.le_refl _) _).grown hgrow (by simp) (fun k e => by cases e; exact Nat.le_refl _)⟩
end Go.Proofs.YtnonfdcbnkdmcaaGreatDoor
namespace Go.Proofs.YtnonfdcbnkdmcaaGreatDoor
open Go.RowKit Go.Mem

set_option maxRecDepth 20000 in
set_option maxHeartbeats 1000000 in
theorem insertL_end (B : Nat) (v : Value) (n : Nat) (xs ys : List Value) (w : World) (hown : w.ownsRow B 121 2 v n xs) (vb : Nat) (hy : ys.length = 2) (h1 : ∀ u ∈ ys, u.oneCell' = true)
 (hvs : ∀ j u, ys[j]? = some u → w.cell? ⟨vb, j, none⟩ = some u) (hB : B ≤ w.heap.size) (hb : (n + 1) * 32 ≤ 140737488355328) :
 Calls Tryz.prog 113 #[v, .int .i64 n, .slice (some ⟨vb, 0, none⟩) 1 1] w (Sl.OwnsAfter B 121 2 (n + 1) (xs ++ ys) w) := by
 obtain ⟨i0, hi, hz0, hz1, hz2⟩ := info_parts infoL
 obtain ⟨a, c, hv, R, hbl⟩ := Sl.of_owns hown
 have hle := R.le
 have hmx := R.max
 unfold maxLen at hmx
 have hown' := Lib.hid hown
 have hv' := Lib.hid hv
 have hvs' : Hid (∀ j u, ys[j]? = some u → w.cell? ((⟨vb, 0, none⟩ : Addr).add j) = some u) := fun j u hj => by rw [Addr.add_lit, Nat.zero_add]; exact hvs j u hj
 have hy' := Lib.hid hy
 have hb' := Lib.hid hb
 have hbl' := Lib.hid hbl
 clear hown hvs hy hb hbl R
 rw [hv]
 clear hv
 go_enter Tryz.func113, Tryz.ntmps113
 go_wp2_with (at_builtin; refine wpList_append_own _ rfl _ _ 22 rfl B 121 i0 _ 2 32 Tryz.underlying22 hi hz0 hz1 hz2 rfl (by decide) _ n xs rfl (hv'.out ▸ hown'.out) ⟨vb, 0, none⟩ 1 1 ys rfl hy'.out hvs'.out h1 (by have := hb'.out; unfold maxLen; omega) hb'.out hB ?_; intro v' w1 hown1 hgrow _)
 all_goals
  go_ret
  exact ⟨v', rfl, hown1, (Below.refl _ _).grown hgrow hB (fun k e => by cases a with
   | none => cases e
    | some ad => cases e; exact (hbl'.out ad rfl).1)⟩


set_option maxRecDepth 20000 in
set_option maxHeartbeats 1000000 in
theorem insertL_grow (B : Nat) (g n i cap : Nat) (xs rest ys : List Value) (w : World) (_hBg : B ≤ g) (hgl : g < w.heap.size) (hg : w.heap[g]? = some (.cells (xs ++ rest).toArray 121 (0, 0))) (hx : xs.length = n * 2) (hin : i < n) (hnc : n ≤ cap) (hcm : cap ≤ maxLen)
 (hfull : cap < n + 1) (h1x : ∀ u ∈ xs, u.oneCell' = true)
 (vb : Nat) (hvb : vb < w.heap.size) (hy : ys.length = 2) (h1 : ∀ u ∈ ys, u.oneCell' = true)
 (hvs : ∀ j u, ys[j]? = some u → w.cell? ⟨vb, j, none⟩ = some u) (hB : B ≤ w.heap.size) (hb : (n + 1) * 32 ≤ 140737488355328) :
 Calls Tryz.prog 113 #[.slice (some ⟨g, 0, none⟩) n cap, .int .i64 i, .slice (some ⟨vb, 0, none⟩) 1 1] w (Sl.OwnsAfter B 121 2 (n + 1) (xs.take (i * 2) ++ ys ++ xs.drop (i * 2)) w) := by
 unfold maxLen at hcm
 obtain rfl : cap = n := by omega
 obtain ⟨i0, hi, hz0, hz1, hz2⟩ := info_parts infoL
 have hne : ¬ (cap : Int) = (i : Int) := by omega
 have hne2 : ¬ (i : Int) = (cap : Int) := by omega
 have hne3 : ¬ cap = i := by omega
 have hin' : (i : Int) < (cap : Int) := by omega
 have hcb : (cap : Int) ≤ 4398046511104 := by omega
 have hcell : ∀ j u, xs[j]? = some u → w.cell? ⟨g, j, none⟩ = some u := fun j u hj => by
  rw [cell_of_row w g j _ 121 (0, 0) hg]
  have := (List.getElem?_eq_some_iff.1 hj).1
  simpa [List.getElem?_append_left this] using hj
 have hx3 : i * 2 ≤ xs.length := by omega
 obtain ⟨c2, W1, Z, hr1, hc2, hc2m, hW1, hZ, hb1, hs1⟩ := Sl.append_zeros (P := Tryz.prog) w 22 3 121 i0 _ .i64 2 32 Tryz.underlying22 Tryz.underlying3 hi hz0 hz1 hz2 rfl ⟨g, 0, none⟩ i cap (cap + 1 - i) (cap + 1) (xs.take (i * 2)) (by simp; omega)
  (fun j u hj => by rw [Addr.add_lit, Nat.zero_add]; rw [List.getElem?_take] at hj; split at hj; exact hcell j u hj; cases hj) ((cap : Int) + 1 - (i : Int)) (by omega) (by omega) (by omega) (by omega) (by omega) hb (by omega)
 have hpl : (xs.take (i * 2)).length = i * 2 := by simp; omega
 unfold maxLen at hc2m
 have hvs1 : ∀ j u, ys[j]? = some u → W1.cell? ((⟨vb, 0, none⟩ : Addr).add j) = some u := fun j u hj => by
  rw [Addr.add_lit, Nat.zero_add, hb1.cell (p := ⟨vb, j, none⟩) hvb]; exact hvs j u hj
 obtain ⟨W2, hr2, hW2, hg2, hs2⟩ := Sl.copy_row (P := Tryz.prog) W1 22 22 121 w.heap.size (i * 2) (cap + 1 - i) ⟨vb, 0, none⟩ 1 1 2 121 (xs.take (i * 2)) (Z.take 2) (Z.drop 2) ys Tryz.underlying22 sizeL (by rw [List.append_assoc, List.take_append_drop]; exact hW1) hpl
  (by rw [List.length_take, hy]; omega) (by simp [Nat.min_def]; omega) (by omega) hvs1 h1
 have hZ1 : ((Z.drop 2).take ((cap - i) * 2)).length = (xs.drop (i * 2)).length := by simp; omega
 have hcell2 : ∀ j u, (xs.drop (i * 2))[j]? = some u → W2.drew.cell? ((⟨g, i * 2, none⟩ : Addr).add j) = some u := fun j u hj => by
  rw [Addr.add_lit]
  rw [List.getElem?_drop] at hj
  refine hg2.cell (w := W1) (a := ⟨g, i * 2 + j, none⟩) ?_ (by simp; omega)
  rw [hb1.cell (p := ⟨g, _, none⟩) hgl]
  exact hcell _ u hj
 obtain ⟨W3, hr3, hW3, hg3, hs3⟩ := Sl.copy_row (P := Tryz.prog) W2.drew 22 22 121 w.heap.size ((i + 1) * 2) (cap - i) ⟨g, i * 2, none⟩ (cap - i) (cap - i) 2 121 (xs.take (i * 2) ++ ys) ((Z.drop 2).take ((cap - i) * 2)) ((Z.drop 2).drop ((cap - i) * 2)) (xs.drop (i * 2)) Tryz.underlying22 sizeL
  (by rw [List.append_assoc _ _ ((Z.drop 2).drop _), List.take_append_drop]; exact hW2) (by simp [hpl, hy]; omega) hZ1 (by simp ) (by simp; omega) hcell2 (fun u hu => h1x u (List.mem_of_mem_drop hu))
 have hfin : Hid (Sl.OwnsAfter B 121 2 (cap + 1) (xs.take (i * 2) ++ ys ++ xs.drop (i * 2)) w (.returned (.slice (some ⟨w.heap.size, 0, none⟩) (cap + 1) c2)) W3) := by
  refine ⟨_, rfl, Sl.owns_mk hB hW3 (by simp [hy]; omega) hc2 (by unfold maxLen; omega) ?_, ?_⟩
  · simp [hy]; simp [hpl] at hZ; omega
  · exact (((hb1.mono hB).grown hg2 (by omega) (fun k e => by cases e; exact hB)).drew).grown hg3 (by show B ≤ W2.heap.size; omega) (fun k e => by cases e; exact hB)
 clear hcell hcell2 hvs hvs1 hW1 hW2 hW3 hg2 hg3 hg h1x h1 hZ hZ1 hb1 hs1 hs2 hs3 hx hx3 hpl hy hi hz0 hz1 hz2
 go_enter Tryz.func113, Tryz.ntmps113
 go_wp2_with (first
  | (at_builtin; refine Lib.wpList_append_run _ rfl _ _ _ _ rfl _ _ rfl rfl _ _ (hr1 _) ?_)
   | (with_reducible refine Sl.wpList_copy_run _ rfl _ _ _ _ rfl _ _ rfl rfl _ _ (hr2 _ _ _) ?_))
 have hn1 : ¬ (c2 = i + 1) := by omega
 have hn2 : ((i : Int) + 1).toNat = i + 1 := by omega
 have hn3 : IntKind.i64.wrap ((i : Int) + 1) = (i : Int) + 1 := IntWalk.i64_in _ (by omega)
 have hn4 : (0 : Int) ≤ (i : Int) + 1 := by omega
 have hn5 : (i : Int) + 1 ≤ (cap : Int) + 1 := by omega
 have hn6 : (i : Int) ≤ (cap : Int) := by omega
 go_region_law (refine Sl.step_copy_run rfl _ _ 22 22 rfl _ _ (by simp [Act.eval, Act.put]) (by simp [Act.eval, Act.put]) _ _ (hr3 _ _ _) ?_)
 go_wp2
 go_ret
 exact hfin.out


set_option maxRecDepth 20000 in
set_option maxHeartbeats 1000000 in
theorem insertL_shift (B : Nat) (g n i cap : Nat) (xs rest ys : List Value) (w : World) (hBg : B ≤ g) (hgl : g < w.heap.size) (hg : w.heap[g]? = some (.cells (xs ++ rest).toArray 121 (0, 0))) (hx : xs.length = n * 2) (hin : i < n) (_hnc : n ≤ cap) (hcm : cap ≤ maxLen)
 (hroom : n + 1 ≤ cap) (hrest : xs.length + rest.length = cap * 2) (h1x : ∀ u ∈ xs, u.oneCell' = true)
 (vb : Nat) (hvb : w.heap[vb]? = some (.cells ys.toArray 121 (0, 0))) (hvg : vb ≠ g) (hy : ys.length = 2) (h1 : ∀ u ∈ ys, u.oneCell' = true) :
 Calls Tryz.prog 113 #[.slice (some ⟨g, 0, none⟩) n cap, .int .i64 i, .slice (some ⟨vb, 0, none⟩) 1 1] w (Sl.OwnsAfter B 121 2 (n + 1) (xs.take (i * 2) ++ ys ++ xs.drop (i * 2)) w) := by
 unfold maxLen at hcm
 have hpl : (xs.take (i * 2)).length = i * 2 := by simp; omega
 have hLl : (xs ++ rest).length = cap * 2 := by simpa using hrest
 have hcell : ∀ j u, (xs.drop (i * 2))[j]? = some u → w.drew.cell? ((⟨g, i * 2, none⟩ : Addr).add j) = some u := fun j u hj => by
  rw [Addr.add_lit]
  show w.cell? ⟨g, i * 2 + j, none⟩ = _
  rw [cell_of_row w g _ _ 121 (0, 0) hg]
  rw [List.getElem?_drop] at hj
  have := (List.getElem?_eq_some_iff.1 hj).1
  simpa [List.getElem?_append_left this] using hj
 obtain ⟨W1, hr1, hW1, hg1, hs1⟩ := Sl.copy_row (P := Tryz.prog) w.drew 22 22 121 g ((i + 1) * 2) (n - i) ⟨g, i * 2, none⟩ (n + 1 - i) (n - i) 2 121 ((xs ++ rest).take ((i + 1) * 2)) (((xs ++ rest).drop ((i + 1) * 2)).take ((n - i) * 2)) (((xs ++ rest).drop ((i + 1) * 2)).drop ((n - i) * 2)) (xs.drop (i * 2)) Tryz.underlying22 sizeL
  (by rw [List.append_assoc, List.take_append_drop, List.take_append_drop]; exact hg) (by rw [List.length_take]; omega) (by rw [List.length_take, List.length_drop, List.length_drop]; omega) (by simp [Nat.min_def]; omega) (by rw [List.length_drop]; omega) hcell (fun u hu => h1x u (List.mem_of_mem_drop hu))
 have hsplit : (xs ++ rest).take ((i + 1) * 2) = xs.take (i * 2) ++ ((xs ++ rest).drop (i * 2)).take 2 := by
  rw [show (i + 1) * 2 = i * 2 + 2 by omega, List.take_add, List.take_append_of_le_length (by omega)]
 have hvs1 : ∀ j u, ys[j]? = some u → W1.cell? ((⟨vb, 0, none⟩ : Addr).add j) = some u := fun j u hj => by
  rw [Addr.add_lit, Nat.zero_add]
  refine hg1.cell (w := w.drew) (a := ⟨vb, j, none⟩) ?_ (by simpa using hvg)
  show w.cell? _ = _
  rw [cell_of_row w vb _ _ 121 (0, 0) hvb]
  simpa using hj
 obtain ⟨W2, hr2, hW2, hg2, hs2⟩ := Sl.copy_row (P := Tryz.prog) W1 22 22 121 g (i * 2) (n + 1 - i) ⟨vb, 0, none⟩ 1 1 2 121 (xs.take (i * 2)) (((xs ++ rest).drop (i * 2)).take 2) (xs.drop (i * 2) ++ ((xs ++ rest).drop ((i + 1) * 2)).drop ((n - i) * 2)) ys Tryz.underlying22 sizeL
  (by rw [← hsplit, ← List.append_assoc]; exact hW1) hpl (by rw [List.length_take, List.length_drop, hy]; omega) (by simp [Nat.min_def]; omega) (by omega) hvs1 h1
 have hfin : Hid (Sl.OwnsAfter B 121 2 (n + 1) (xs.take (i * 2) ++ ys ++ xs.drop (i * 2)) w (.returned (.slice (some ⟨g, 0, none⟩) (n + 1) cap)) W2) := by
  refine ⟨_, rfl, Sl.owns_mk hBg (rest := ((xs ++ rest).drop ((i + 1) * 2)).drop ((n - i) * 2)) (by rw [List.append_assoc _ (xs.drop _)]; exact hW2) (by simp [hy]; omega) hroom (by unfold maxLen; omega) ?_, ?_⟩
  · simp only [List.length_append, List.length_drop, List.length_take, hy]; rw [List.length_append] at hLl; omega
  · exact (((Below.refl B w).drew).grown hg1 (by show B ≤ w.heap.size; omega) (fun k e => by cases e; exact hBg)).grown hg2 (by rw [hs1]; show B ≤ w.heap.size; omega) (fun k e => by cases e; exact hBg)
 have hov : ∀ lb cb, (callFunc 166 #[.slice (some ⟨vb, 0, none⟩) 1 1, .slice (some ⟨g, (i + 1) * 2, none⟩) lb cb]).run Tryz.prog w = .ok (.value (.bool false)) w := fun lb cb => by
  rw [run_callFunc_extern Tryz.func166 (by kernel_rfl) (by kernel_rfl) (by kernel_rfl) (e := Extern.SlicesOverlaps.overlaps #[22, 22] #[4]) (by kernel_rfl),
   Lib.run_overlaps_apart w 22 4 121 Tryz.underlying22 2 (fun w => by kernel_rfl) ⟨vb, 0, none⟩ ⟨g, (i + 1) * 2, none⟩ 1 1 lb cb hvg 121 121 2 (cap * 2) (by simp [World.shape?, hvb, hy]) (by simp only [World.shape?, hg]; simpa using hLl) (by omega) (by simp [World.frozen?, hvb]) (by simp [World.frozen?, hvb])]
  rfl
 have hne : ¬ (cap : Int) = (i : Int) := by omega
 have hne2 : ¬ (i : Int) = (n : Int) := by omega
 have hne3 : ¬ cap = i := by omega
 have hne4 : ¬ (cap : Int) < (n : Int) + 1 := by omega
 have hin' : (i : Int) < (n : Int) := by omega
 have hcb : (cap : Int) ≤ 9223372036854775807 := by omega
 have hn1 : ¬ (cap = i + 1) := by omega
 have hn2 : ((i : Int) + 1).toNat = i + 1 := by omega
 have hn3 : IntKind.i64.wrap ((i : Int) + 1) = (i : Int) + 1 := IntWalk.i64_in _ (by omega)
 have hn4 : (0 : Int) ≤ (i : Int) + 1 := by omega
 have hn5 : (i : Int) + 1 ≤ (n : Int) + 1 := by omega
 have hn6 : (i : Int) ≤ (n : Int) + 1 := by omega
 clear hcell hvs1 hW1 hW2 hg2 hg1 hg h1x h1 hs1 hs2 hx hpl hy hLl hrest hsplit hvb
 go_enter Tryz.func113, Tryz.ntmps113
 go_wp2_with (simp only [hov])
 go_region_law (refine Sl.step_copy_run rfl _ _ 22 22 rfl _ _ (by simp [Act.eval, Act.put]) (by simp [Act.eval, Act.put]) _ _ (hr1 _ _ _) ?_)
 go_wp2_with (with_reducible refine Sl.wpList_copy_run _ rfl _ _ _ _ rfl _ _ rfl rfl _ _ (hr2 _ _ _) ?_)
 go_ret
 exact hfin.out


theorem insertL_any (B : Nat) (v : Value) (n i : Nat) (xs ys : List Value) (w : World) (hown : w.ownsRow B 121 2 v n xs) (hin : i ≤ n) (h1x : ∀ u ∈ xs, u.oneCell' = true)
 (vb : Nat) (hvb : w.heap[vb]? = some (.cells ys.toArray 121 (0, 0))) (hvg : ∀ k, v.ownBlock = some k → vb ≠ k) (hy : ys.length = 2) (h1 : ∀ u ∈ ys, u.oneCell' = true) (hB : B ≤ w.heap.size) (hb : (n + 1) * 32 ≤ 140737488355328) :
 Calls Tryz.prog 113 #[v, .int .i64 i, .slice (some ⟨vb, 0, none⟩) 1 1] w (Sl.OwnsAfter B 121 2 (n + 1) (xs.take (i * 2) ++ ys ++ xs.drop (i * 2)) w) := by
 have hvs : ∀ j u, ys[j]? = some u → w.cell? ⟨vb, j, none⟩ = some u := fun j u hj => by
  rw [cell_of_row w vb _ _ 121 (0, 0) hvb]
  simpa using hj
 by_cases hi : i = n
 · subst hi
   have hl := hown.1
   rw [List.take_of_length_le (by omega), List.drop_eq_nil_of_le (by omega), List.append_nil]
   exact insertL_end B v i xs ys w hown vb hy h1 hvs hB hb
 · obtain ⟨g, cap, rest, rfl, hBg, hgl, hg, hnc, hcm, hl⟩ := Sl.owns_row hown (by omega)
   by_cases hroom : n + 1 ≤ cap
   · exact insertL_shift B g n i cap xs rest ys w hBg hgl hg hown.1 (by omega) hnc hcm hroom hl h1x vb hvb (hvg g rfl) hy h1
   · exact insertL_grow B g n i cap xs rest ys w hBg hgl hg hown.1 (by omega) hnc hcm (by omega) h1x vb (Array.getElem?_eq_some_iff.1 hvb).1 hy h1 hvs hB hb

end Go.Proofs.YtnonfdcbnkdmcaaGreatDoor
