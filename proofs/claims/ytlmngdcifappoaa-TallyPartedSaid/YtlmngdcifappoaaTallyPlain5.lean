/- The plain law of TallyParted: what 'added' computes. -/
import Derived.Test.YtlmngdcifappoaaTallyPlain3
namespace Tally
open Go.RowKit (wrap64)

/-- the Seq of a device's last element, or what was there before. -/
def seqOf (d : Int) : List Tl → Int → Int
  | [], c => c
  | t :: r, c => seqOf d r (if t.d = d then t.s else c)

theorem seqOf_cons (d : Int) (t : Tl) (r : List Tl) (c : Int) : seqOf d (t :: r) c = seqOf d r (if t.d = d then t.s else c) := rfl

theorem seqOf_none {d k : Int} {l : List Tl} (h : Sorted k l) (hd : d ≤ k) : ∀ c, seqOf d l c = c := by
  induction h with
  | nil => intro c; rfl
  | cons h _ ih => intro c; rw [seqOf_cons, if_neg (by omega)]; exact ih (by omega) c

theorem seqOf_get {d k : Int} {l : List Tl} (h : Sorted k l) : ∀ c, seqOf d l c = (match get l d with | none => c | some u => u.1) := by
  induction h with
  | nil => intro c; rfl
  | @cons _ t _ h hs ih =>
    intro c
    rw [get_cons, seqOf_cons]
    by_cases e : t.d = d
    · rw [if_pos e, if_pos e, seqOf_none hs (by omega)]
    · rw [if_neg e, if_neg e]; exact ih c

/-- adding all from the next number on. -/
def addedSpec (d : Int) (ns : List Int) (l : List Tl) : Option (List Tl) := addAll d (seqOf d l 0 + 1) ns l

theorem seqOf_bounds {d : Int} {l : List Tl} (h : chk l = true) : 0 ≤ seqOf d l 0 ∧ seqOf d l 0 ≤ 1048576 := by
  have hc := chk_iff.1 h
  rw [seqOf_get hc.1]
  cases hg : get l d with
  | none => simp
  | some u => have := hc.2 d u hg; simp [dot] at this; simp; omega

theorem addAll_ok {l : List Tl} {d s n : Int} {r : List Int} (hl : chk l = true) (h : (addSpec l d s n).2 = 0) :
    ∃ y, addSpec l d s n = (y, 0) ∧ addAll d s (n :: r) l = addAll d (s + 1) r y ∧ chk y = true := by
  obtain ⟨y, h1, _, h3, h4⟩ := addSpec_ok h
  exact ⟨y, h4, by simp [addAll, h3, h1], add_chk hl h3 h1⟩

theorem addAll_bad {l : List Tl} {d s n : Int} {r : List Int} (hl : chk l = true) (h : (addSpec l d s n).2 ≠ 0) : addAll d s (n :: r) l = none := by
  simp only [addAll]
  split
  · rename_i hd
    cases ha : addL d s n l with
    | none => rfl
    | some y => exact absurd (by simp [addSpec, hl, hd, ha]) h
  · rfl

theorem parted' {m n : Int} {a b : List Int} {l x y : List Tl} (hl : chk l = true) (hne : m ≠ n) (hx : addedSpec m a l = some x) (hy : addedSpec n b l = some y) :
    ∃ z, addedSpec n b x = some z ∧ joinSpec x y = (z, 0) := by
  have hc := chk_iff.1 hl
  have cx := addAll_chk a hl hx
  have cy := addAll_chk b hl hy
  have hs : ∀ d u, get l d = some u → u.1 < seqOf d l 0 + 1 := by
    intro d u hu
    rw [seqOf_get hc.1, hu]; simp; omega
  obtain ⟨z, hz, hj⟩ := parted hl hne (hs m) (hs n) hx hy
  have e : seqOf n x 0 = seqOf n l 0 := by
    rw [seqOf_get (chk_iff.1 cx).1, seqOf_get hc.1, (addAll_get a hl (hs m) hx).1 n (fun h => hne h.symm)]
  exact ⟨z, by unfold addedSpec; rw [e]; exact hz, by rw [joinSpec_t cx cy, hj]⟩

theorem addAll_length {d : Int} (ns : List Int) : ∀ {s : Int} {l x : List Tl}, addAll d s ns l = some x → x.length ≤ l.length + ns.length := by
  induction ns with
  | nil => intro s l x h; cases h; simp
  | cons n r ih =>
    intro s l x h
    simp only [addAll] at h
    split at h
    · cases ha : addL d s n l with
      | none => rw [ha] at h; cases h
      | some y =>
        rw [ha] at h
        have h1 := ih (s := s + 1) (l := y) h
        have h2 := addL_length l ha
        simp only [List.length_cons]; omega
    · cases h

end Tally
