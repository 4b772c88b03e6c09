/- the reference of chapter 30, plainly: what its loops keep; no program -/
import Derived.Test.YtnonfdcbnkdmcaaGreatDoorStPlain
namespace Go.Sto
/-- the number of the first entry with a digest; 0: there is none. -/
def numE (d : List Nat) (l : List Ent) : Nat := if idxE d l < l.length then idxE d l + 1 else 0
theorem numE_at {d : List Nat} {l : List Ent} {i : Nat} {e : Ent} (h : l[i]? = some e) (hd : e.dig = d) (hn : ∀ j x, j < i → l[j]? = some x → x.dig ≠ d) : numE d l = i + 1 := by
  unfold numE
  rw [idxE_at h hd hn, if_pos (List.getElem?_eq_some_iff.1 h).1]
theorem numE_none {d : List Nat} {l : List Ent} (hn : ∀ j x, j < l.length → l[j]? = some x → x.dig ≠ d) : numE d l = 0 := by
  unfold numE
  rw [if_neg]
  intro h
  obtain ⟨e, he, hd⟩ := idxE_lt h
  exact hn _ e h he hd
theorem numE_own {l : List Ent} {k : Nat} {e : Ent} (h : l[k]? = some e) : numE e.dig l = k + 1 ↔ e.dig ∉ (l.take k).map (·.dig) := by
  constructor
  · intro hn hm
    obtain ⟨x, hx, hd⟩ := List.mem_map.1 hm
    obtain ⟨j, hj⟩ := List.mem_iff_getElem?.1 hx
    have hjk : j < k := by have := (List.getElem?_eq_some_iff.1 hj).1; rw [List.length_take] at this; omega
    rw [List.getElem?_take_of_lt hjk] at hj
    unfold numE at hn
    split at hn
    · rename_i hlt
      have h2 := List.not_of_lt_findIdx (p := fun y : Ent => decide (y.dig = e.dig)) (xs := l) (i := j) (by unfold idxE at hn; omega)
      rw [show l[j]'(List.getElem?_eq_some_iff.1 hj).1 = x from Option.some.inj ((List.getElem?_eq_getElem _).symm.trans hj)] at h2
      simp [hd] at h2
    · omega
  · intro hm
    refine numE_at h rfl fun j x hj hx hd => hm ?_
    refine List.mem_map.2 ⟨x, List.mem_iff_getElem?.2 ⟨j, ?_⟩, hd⟩
    rw [List.getElem?_take_of_lt hj]; exact hx
theorem fineGo_step {met : List (List Nat)} {e : Ent} {r : List Ent} (h1 : e.dig ∉ met) (h2 : entB e = true) : fineGo met (e :: r) = fineGo (met ++ [e.dig]) r := by
  conv => lhs; unfold fineGo
  rw [if_neg h1, if_pos h2]
theorem fineGo_stop {met : List (List Nat)} {e : Ent} {r : List Ent} (h : e.dig ∈ met ∨ entB e = false) : fineGo met (e :: r) = false := by
  unfold fineGo
  split
  · rfl
  · rename_i h1
    rcases h with h | h
    · exact absurd h h1
    · rw [h]; rfl
theorem fineGo_drop {l : List Ent} {k : Nat} {e : Ent} (h : l[k]? = some e) (hb : entB e = true) (hn : numE e.dig l = k + 1) :
    fineGo ((l.take k).map (·.dig)) (l.drop k) = fineGo ((l.take (k + 1)).map (·.dig)) (l.drop (k + 1)) := by
  have hk := (List.getElem?_eq_some_iff.1 h).1
  have he := (List.getElem?_eq_some_iff.1 h).2
  rw [List.drop_eq_getElem_cons hk, he, fineGo_step ((numE_own h).1 hn) hb, List.take_add_one, h]
  simp
theorem fineGo_bad {l : List Ent} {k : Nat} {e : Ent} (h : l[k]? = some e) (hb : entB e = false ∨ numE e.dig l ≠ k + 1) :
    fineGo ((l.take k).map (·.dig)) (l.drop k) = false := by
  have hk := (List.getElem?_eq_some_iff.1 h).1
  have he := (List.getElem?_eq_some_iff.1 h).2
  rw [List.drop_eq_getElem_cons hk, he]
  refine fineGo_stop ?_
  rcases hb with hb | hb
  · exact .inr hb
  · exact .inl (Classical.byContradiction fun hm => hb ((numE_own h).2 hm))
/-- what is put between the logs. -/
def withGo (f : Int) (l : List Ent) : Bool → List Lg → List Lg
  | false, [] => [⟨f, l⟩]
  | true, [] => []
  | d, x :: r => (if d = false ∧ f ≤ x.folder then [⟨f, l⟩] else []) ++ (if x.folder ≠ f then [x] else []) ++ withGo f l (d || decide (f ≤ x.folder)) r
theorem withGo_after {f : Int} {l : List Ent} : ∀ {L : List Lg} {p : Int}, logsB p L = true → f ≤ p → withGo f l true L = L
  | [], _, _, _ => rfl
  | x :: r, p, h, hp => by
    rw [logsB_cons] at h
    have hn : x.folder ≠ f := by omega
    have ih := withGo_after (f := f) (l := l) h.2.2.2 (by omega)
    simp only [withGo, Bool.true_or, ih, ne_eq, hn, not_false_eq_true, if_true, Bool.true_eq_false, false_and, if_false, List.nil_append, List.cons_append]
theorem withGo_ins {f : Int} {l : List Ent} : ∀ {L : List Lg} {p : Int}, logsB p L = true → withGo f l false L = insL f l L
  | [], _, _ => rfl
  | x :: r, p, h => by
    rw [logsB_cons] at h
    unfold insL
    rcases Int.lt_trichotomy x.folder f with hx | hx | hx
    · have hn : x.folder ≠ f := by omega
      have hf : ¬ f ≤ x.folder := by omega
      have ih := withGo_ins (f := f) (l := l) h.2.2.2
      simp only [withGo, hf, hn, hx, ih, ne_eq, not_false_eq_true, and_false, if_true, if_false, decide_false, Bool.or_false, List.nil_append, List.cons_append]
    · have ih := withGo_after (f := f) (l := l) h.2.2.2 (by omega)
      simp only [withGo, hx, Int.le_refl, Int.lt_irrefl, ih, ne_eq, not_true_eq_false, and_self, if_true, if_false, decide_true, Bool.or_true, List.append_nil, List.nil_append, List.cons_append]
    · have hn : x.folder ≠ f := by omega
      have hf : f ≤ x.folder := by omega
      have hl : ¬ x.folder < f := by omega
      have ih := withGo_after (f := f) (l := l) h.2.2.2 (by omega)
      simp only [withGo, hf, hn, hl, ih, ne_eq, not_false_eq_true, and_self, if_true, if_false, decide_true, Bool.or_true, List.nil_append, List.cons_append]
end Go.Sto
