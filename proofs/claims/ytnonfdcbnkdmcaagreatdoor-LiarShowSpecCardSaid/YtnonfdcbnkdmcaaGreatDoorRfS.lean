/- the reference of chapter 30, plainly: what its loops keep; no program -/
import Derived.Test.YtnonfdcbnkdmcaaGreatDoorStPlain
namespace Go.Sto
/-- the number of the first entry with a digest; 0: there is none. -/
def numE (d : List Nat) (l : List Ent) : Nat := if idxE d l < l.length then idxE d l + 1 else 0
theorem numE_at {d : List Nat} {l : List Ent} {i : Nat} {e : Ent} (h : l[i]? = some e) (hd : e.dig = d) (hn : ∀ j x, j < i → l[j]? = some x → x.dig ≠ d) : numE d l = i + 1 := by
  unfold numE
  rw [idxE_at h hd hn, if_pos (List.getElem?_eq_some_iff.1 h).1]
theorem numE_none {d : List Nat} {l : List Ent} (hn : ∀ j x, j < l.length → l[j]? = some x → x.dig ≠ d) : numE d l = 0 := by
  unfold numE
  rw [if_neg]
  intro h
  obtain ⟨e, he, hd⟩ := idxE_lt h
  exact hn _ e h he hd
theorem numE_own {l : List Ent} {k : Nat} {e : Ent} (h : l[k]? = some e) : numE e.dig l = k + 1 ↔ e.dig ∉ (l.take k).map (·.dig) := by
  constructor
  · intro hn hm
    obtain ⟨x, hx, hd⟩ := List.mem_map.1 hm
    obtain ⟨j, hj⟩ := List.mem_iff_getElem?.1 hx
    have hjk : j < k := by have := (List.getElem?_eq_some_iff.1 hj).1; rw [List.length_take] at this; omega
    rw [List.getElem?_take_of_lt hjk] at hj
    unfold numE at hn
    split at hn
    · rename_i hlt
      have h2 := List.not_of_lt_findIdx (p := fun y : Ent => decide (y.dig = e.dig)) (xs := l) (i := j) (by unfold idxE at hn; omega)
      rw [show l[j]'(List.getElem?_eq_some_iff.1 hj).1 = x from Option.some.inj ((List.getElem?_eq_getElem _).symm.trans hj)] at h2
      simp [hd] at h2
    · omega
  · intro hm
    refine numE_at h rfl fun j x hj hx hd => hm ?_
    refine List.mem_map.2 ⟨x, List.mem_iff_getElem?.2 ⟨j, ?_⟩, hd⟩
    rw [List.getElem?_take_of_lt hj]; exact hx
theorem fineGo_step {met : List (List Nat)} {e : Ent} {r : List Ent} (h1 : e.dig ∉ met) (h2 : entB e = true) : fineGo met (e :: r) = fineGo (met ++ [e.dig]) r := by
  conv => lhs; unfold fineGo
  rw [if_neg h1, if_pos h2]
theorem fineGo_stop {met : List (List Nat)} {e : Ent} {r : List Ent} (h : e.dig ∈ met ∨ entB e = false) : fineGo met (e :: r) = false := by
  unfold fineGo
  split
  · rfl
  · rename_i h1
    rcases h with h | h
    · exact absurd h h1
    · rw [h]; rfl
theorem fineGo_drop {l : List Ent} {k : Nat} {e : Ent} (h : l[k]? = some e) (hb : entB e = true) (hn : numE e.dig l = k + 1) :
    fineGo ((l.take k).map (·.dig)) (l.drop k) = fineGo ((l.take (k + 1)).map (·.dig)) (l.drop (k + 1)) := by
  have hk := (List.getElem?_eq_some_iff.1 h).1
  have he := (List.getElem?_eq_some_iff.1 h).2
  rw [List.drop_eq_getElem_cons hk, he, fineGo_step ((numE_own h).1 hn) hb, List.take_add_one, h]
  simp
theorem fineGo_bad {l : List Ent} {k : Nat} {e : Ent} (h : l[k]? = some e) (hb : entB e = false ∨ numE e.dig l ≠ k + 1) :
    fineGo ((l.take k).map (·.dig)) (l.drop k) = false := by
  have hk := (List.getElem?_eq_some_iff.1 h).1
  have he := (List.getElem?_eq_some_iff.1 h).2
  rw [List.drop_eq_getElem_cons hk, he]
  refine fineGo_stop ?_
  rcases hb with hb | hb
  · exact .inr hb
  · exact .inl (Classical.byContradiction fun hm => hb ((numE_own h).2 hm))
end Go.Sto

