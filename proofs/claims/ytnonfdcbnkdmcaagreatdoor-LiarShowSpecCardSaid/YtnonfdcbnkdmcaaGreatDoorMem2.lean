/- words for memory, continued: whole rows loaded and stored; a slice of bytes that is cut -/
import Derived.Test.YtnonfdcbnkdmcaaGreatDoorMem
import Derived.Deep.MidRow
namespace Go.Mem
open Go.RowKit

theorem Blk.setCells : ∀ (vs : List Value) {w : World} {g : Nat} {t : TypeId} {pre mid post : List Value}, Blk w g t (pre ++ mid ++ post) → mid.length = vs.length → Blk (w.setCells g pre.length vs) g t (pre ++ vs ++ post) := by
 intro vs
 induction vs with
 | nil =>
  intro w g t pre mid post h hl
  have : mid = [] := List.eq_nil_of_length_eq_zero (by simpa using hl)
  subst this
  exact h
 | cons v r ih =>
  intro w g t pre mid post h hl
  match mid, hl with
  | m :: ms, hl =>
   have h1 := h.set pre.length v
   have e : (pre ++ m :: ms ++ post).set pre.length v = (pre ++ [v]) ++ ms ++ post := by
    rw [List.append_assoc, List.set_append_right _ _ (by omega), Nat.sub_self]
    simp
   rw [e] at h1
   have h2 := ih (pre := pre ++ [v]) (mid := ms) (post := post) h1 (by simpa using hl)
   rw [List.length_append] at h2
   have e2 : pre ++ [v] ++ r ++ post = pre ++ (v :: r) ++ post := by simp
   rw [e2] at h2
   rw [World.setCells]
   exact h2

theorem grown_setCells : ∀ (vs : List Value) {a w : World} {g o : Nat}, a.grownBy w (some g) → a.grownBy (w.setCells g o vs) (some g) := by
 intro vs
 induction vs with
 | nil => intro a w g o h; exact h
 | cons v r ih => intro a w g o h; rw [World.setCells]; exact ih (grown_set h (.inl rfl) _)

theorem Blk.range {w : World} {g : Nat} {t : TypeId} {cs : List Value} (h : Blk w g t cs) : w.rangeAt g 0 cs := fun j v hv => by
 rw [Nat.zero_add]; exact h.at_ hv
theorem Blk.there {w : World} {g : Nat} {t : TypeId} {cs : List Value} (h : Blk w g t cs) : w.there g 0 cs.length := fun j hj => by
 rw [Nat.zero_add]
 exact ⟨by rw [h.at_ (List.getElem?_eq_getElem hj)]; rfl, h.frozen j⟩

section
variable {P : Program}
theorem run_store_blk {w : World} {g : Nat} {t ty : TypeId} {cs vs : List Value} (h : Blk w g t cs) (hl : vs.length = cs.length) (hi : (P.info? ty).map (·.size) = some vs.length) (h1 : ∀ v ∈ vs, v.oneCell' = true) :
 (Instr.storeAt ty (.pointer (some ⟨g, 0, none⟩)) (.agg vs.toArray)).run P w = .ok () (w.setCells g 0 vs) ∧ Blk (w.setCells g 0 vs) g t vs ∧ w.grownBy (w.setCells g 0 vs) (some g) := by
 have ht := h.there
 rw [← hl] at ht
 refine ⟨by simpa using run_storeAt_mid (P := P) w g 0 ty vs.toArray (by simpa using ht) (by simpa using hi) (by simpa using h1), ?_, grown_setCells vs (World.grownBy.refl w _)⟩
 have := Blk.setCells vs (w := w) (g := g) (t := t) (pre := []) (mid := cs) (post := []) (by simpa using h) hl.symm
 simpa using this
end

section
variable {w w' : World} {b off n c : Nat} {l : List Nat}
theorem BS.cells0 {ad : Addr} (h : BS w (some ad) n c l) : ∃ b off, ad = ⟨b, off, none⟩ ∧ b < w.heap.size ∧ ∀ (i : Nat) x, l[i]? = some x → w.cell? ⟨b, off + i, none⟩ = some (.int .u8 (x : Int)) := h.cells ad rfl
theorem BS.cut {k : Nat} (h : BS w (some ⟨b, off, none⟩) n c l) (hk : k ≤ n) : BS w (if c = k then some ⟨b, off, none⟩ else some ⟨b, off + k, none⟩) (n - k) (c - k) (l.drop k) := by
 obtain ⟨b', off', e, hb, hc⟩ := h.cells0
 cases e
 have hle := h.le
 have hmx := h.max
 refine ⟨by rw [List.length_drop, h.len], by omega, by omega, fun e => ?_, fun ad e => ?_, fun x hx => h.lt x (List.mem_of_mem_drop hx)⟩
 · split at e <;> cases e
 · by_cases hck : c = k
   · rw [if_pos hck] at e
     cases e
     refine ⟨b, off, rfl, hb, fun i x hx => ?_⟩
     rw [List.drop_eq_nil_of_le (by rw [h.len]; omega)] at hx
     cases hx
   · rw [if_neg hck] at e
     cases e
     refine ⟨b, off + k, rfl, hb, fun i x hx => ?_⟩
     rw [List.getElem?_drop] at hx
     rw [Nat.add_assoc]
     exact hc _ x hx
theorem Blk.bs {t : TypeId} {pre post : List Value} (h : Blk w b t (pre ++ bv l ++ post)) (hc : l.length ≤ c) (hm : c ≤ 9223372036854775807) (hlt : ∀ x ∈ l, x < 256) : BS w (some ⟨b, pre.length, none⟩) l.length c l :=
 ⟨rfl, hc, hm, fun e => by (cases e), fun ad e => by
  cases e
  refine ⟨b, pre.length, rfl, h.lt, fun i x hx => h.at_ ?_⟩
  have hi := (List.getElem?_eq_some_iff.1 hx).1
  rw [List.append_assoc, List.getElem?_append_right (by omega), Nat.add_sub_cancel_left, List.getElem?_append_left (by rw [bv_length]; exact hi)]
  exact bv_get hx, hlt⟩
end
end Go.Mem

