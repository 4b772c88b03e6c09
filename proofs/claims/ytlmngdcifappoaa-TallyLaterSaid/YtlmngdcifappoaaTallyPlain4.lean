/- The plain law of TallyLater: what an addition leaves. -/
import Derived.Test.YtlmngdcifappoaaTallyPlain3
namespace Tally
open Go.RowKit (wrap64)

/-- how many are of other devices. -/
def oth (d : Int) : List Tl → Nat
  | [] => 0
  | t :: r => (if t.d = d then 0 else 1) + oth d r

theorem oth_all {d : Int} : ∀ {l : List Tl}, (∀ t ∈ l, t.d ≠ d) → oth d l = l.length
  | [], _ => rfl
  | t :: r, h => by
    simp only [oth, List.length_cons]
    rw [if_neg (h t (List.mem_cons_self ..)), oth_all fun u hu => h u (List.mem_cons_of_mem _ hu)]
    omega

theorem addL_later {d s n : Int} (l : List Tl) : ∀ {k : Int} {x : List Tl}, Sorted k l → addL d s n l = some x →
    (∀ t ∈ x, t.d ≠ d → t ∈ l) ∧ (∀ t ∈ x, t.d = d → t.s = s) ∧ oth d x + 1 = x.length := by
  induction l with
  | nil =>
    intro k x _ h
    cases h
    refine ⟨fun t ht hn => ?_, fun t ht _ => ?_, by simp [oth]⟩
    · rw [List.mem_singleton] at ht; subst ht; exact absurd rfl hn
    · rw [List.mem_singleton] at ht; subst ht; rfl
  | cons t r ih =>
    intro k x hs h
    obtain ⟨hk, hr⟩ : k < t.d ∧ Sorted t.d r := by cases hs with | cons h1 h2 => exact ⟨h1, h2⟩
    simp only [addL] at h
    split at h
    · rename_i hlt
      cases h1 : addL d s n r with
      | none => rw [h1] at h; cases h
      | some z =>
        rw [h1] at h; cases h
        obtain ⟨a, b, c⟩ := ih hr h1
        refine ⟨fun u hu hn => ?_, fun u hu hd => ?_, ?_⟩
        · cases hu with
          | head => exact List.mem_cons_self ..
          | tail _ hu => exact List.mem_cons_of_mem _ (a u hu hn)
        · cases hu with
          | head => omega
          | tail _ hu => exact b u hu hd
        · simp only [oth, List.length_cons]; rw [if_neg (by omega)]; omega
    · split at h
      · rename_i hlt heq
        split at h
        · cases h
        · cases h
          have ho : ∀ u ∈ r, u.d ≠ d := fun u hu => by have := hr.all u hu; omega
          refine ⟨fun u hu hn => ?_, fun u hu hd => ?_, ?_⟩
          · cases hu with
            | head => exact absurd rfl hn
            | tail _ hu => exact List.mem_cons_of_mem _ hu
          · cases hu with
            | head => rfl
            | tail _ hu => exact absurd hd (ho u hu)
          · simp only [oth, List.length_cons]; rw [if_pos trivial, oth_all ho]; omega
      · rename_i hlt heq
        cases h
        have ho : ∀ u ∈ (t :: r), u.d ≠ d := fun u hu => by
          cases hu with
          | head => exact heq
          | tail _ hu => have := hr.all u hu; omega
        refine ⟨fun u hu hn => ?_, fun u hu hd => ?_, ?_⟩
        · cases hu with
          | head => exact absurd rfl hn
          | tail _ hu => exact hu
        · cases hu with
          | head => rfl
          | tail _ hu => exact absurd hd (ho u hu)
        · rw [show oth d (⟨d, s, n⟩ :: t :: r) = 0 + oth d (t :: r) from by simp only [oth]; rw [if_pos trivial], oth_all ho]; simp

theorem later {l x : List Tl} {d s n : Int} (hl : chk l = true) (hd : dot d s = true) (hx : addL d s n l = some x) :
    joinSpec l x = (x, 0) ∧ (∀ t ∈ x, t.d ≠ d → t ∈ l) ∧ (∀ t ∈ x, t.d = d → t.s = s) ∧ oth d x + 1 = x.length :=
  ⟨by rw [joinSpec_t hl (add_chk hl hd hx), join_add hl hd hx], addL_later l (chk_iff.1 hl).1 hx⟩

end Tally
