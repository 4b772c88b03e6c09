/- The plain law of TallySpoiled: spoiled lists are not valid. -/
import Derived.Test.YtlmngdcifappoaaTallyPlain3
namespace Tally

theorem spoiled {x l : List Tl} (hx : chk x = false) (hl : chk l = true) (d s n : Int) :
    valueSpec x = (0, 150) ∧ addSpec x d s n = ([], 150) ∧ joinSpec x l = ([], 150) ∧ joinSpec l x = ([], 150) ∧ chkE x = 150 :=
  ⟨valueSpec_bad hx, by simp [addSpec, hx], by simp [joinSpec, hx], by simp [joinSpec, hx, hl], chkE_f hx⟩

theorem spoil_twice {l : List Tl} {i : Nat} {t : Tl} (hi : l[i]? = some t) : chk (l ++ [t]) = false := by
  cases h : chk (l ++ [t]) with
  | false => rfl
  | true =>
    have hs := (chk_iff.1 h).1
    have hil := (List.getElem?_eq_some_iff.1 hi).1
    have := hs.lt (p := i) (q := l.length) (t := t) (u := t) hil (by rw [List.getElem?_append_left hil]; exact hi) (by simp)
    omega

theorem spoil_zero {l : List Tl} {i : Nat} (hi : i < l.length) {t : Tl} (ht : t.s = 0) : chk (l.set i t) = false := by
  cases h : chk (l.set i t) with
  | false => rfl
  | true =>
    have h1 := chkFrom_dot (k := -1) h t (List.mem_iff_getElem?.2 ⟨i, by rw [List.getElem?_set_self hi]⟩)
    have := dot_t h1
    omega

theorem spoil_swap {l : List Tl} (hl : chk l = true) {i k : Nat} {t u : Tl} (hi : l[i]? = some t) (hk : l[k]? = some u) (hne : i ≠ k) : chk ((l.set i u).set k t) = false := by
  cases h : chk ((l.set i u).set k t) with
  | false => rfl
  | true =>
    have hs := (chk_iff.1 h).1
    have hs0 := (chk_iff.1 hl).1
    have hil := (List.getElem?_eq_some_iff.1 hi).1
    have hkl := (List.getElem?_eq_some_iff.1 hk).1
    have ai : ((l.set i u).set k t)[i]? = some u := by rw [List.getElem?_set_ne (fun e => hne e.symm), List.getElem?_set_self hil]
    have ak : ((l.set i u).set k t)[k]? = some t := List.getElem?_set_self (by simpa using hkl)
    rcases Nat.lt_or_gt_of_ne hne with g | g
    · have := hs.lt g ai ak; have := hs0.lt g hi hk; omega
    · have := hs.lt g ak ai; have := hs0.lt g hk hi; omega

theorem WF.set {l : List Tl} (h : WF l) {i : Nat} {t : Tl} (ht : WF [t]) : WF (l.set i t) := fun x hx => by
  rcases List.mem_or_eq_of_mem_set hx with h1 | h1
  · exact h x h1
  · subst h1; exact ht x (by simp)
theorem WF.get {l : List Tl} (h : WF l) {i : Nat} {t : Tl} (ht : l[i]? = some t) : WF [t] := fun x hx => by
  simp at hx; subst hx; exact h x (List.mem_of_getElem? ht)

end Tally
