/- The plain law of the reference's loops over tallies. -/
import Derived.Test.YtlmngdcifappoaaTallyPlain
namespace Tally
open Go.RowKit (wrap64)

/-- the reference's loop of Add, from an element on. -/
def raddGo (d s n : Int) : List Tl → List Tl → Bool → Option (List Tl)
  | [], x, done => some (if done then x else x ++ [⟨d, s, n⟩])
  | t :: r, x, done =>
    if t.d = d then (if s ≤ t.s then none else raddGo d s n r (x ++ [⟨t.d, s, wrap64 (t.n + n)⟩]) true)
    else if d < t.d ∧ done = false then raddGo d s n r (x ++ [⟨d, s, n⟩] ++ [t]) true
    else raddGo d s n r (x ++ [t]) done

theorem raddGo_done {d s n : Int} {l : List Tl} : ∀ {x : List Tl}, (∀ t ∈ l, t.d ≠ d) → raddGo d s n l x true = some (x ++ l) := by
  induction l with
  | nil => intro x _; simp [raddGo]
  | cons t r ih =>
    intro x h
    have h0 := h t (List.mem_cons_self ..)
    simp only [raddGo, if_neg h0]
    rw [if_neg (by simp), ih (fun u hu => h u (List.mem_cons_of_mem _ hu))]
    simp

theorem raddGo_eq {d s n : Int} {l : List Tl} {b : Int} (h : Sorted b l) : ∀ {x : List Tl}, raddGo d s n l x false = (addL d s n l).map (x ++ ·) := by
  induction h with
  | nil => intro x; simp [raddGo, addL]
  | cons h hs ih =>
    rename_i b t r
    intro x
    by_cases c1 : t.d = d
    · simp only [raddGo, addL, if_pos c1, if_neg (show ¬ t.d < d by omega)]
      split
      · rfl
      · rw [raddGo_done (fun u hu => by have := hs.all u hu; omega)]; simp [c1]
    · by_cases c2 : t.d < d
      · simp only [raddGo, addL, if_neg c1, if_pos c2, ih]
        cases addL d s n r <;> (simp; omega)
      · simp only [raddGo, addL, if_neg c1, if_neg c2]
        rw [raddGo_done (fun u hu => by have := hs.all u hu; omega)]
        simp; omega

theorem raddGo_addSpec {d s n : Int} {l : List Tl} (h : chk l = true) (hd : dot d s = true) : addSpec l d s n = (match raddGo d s n l [] false with | none => ([], 182) | some y => (y, 0)) := by
  simp only [addSpec, h, hd, if_true, raddGo_eq (chk_iff.1 h).1]
  cases addL d s n l <;> simp

/-- the steps, as the walk takes them. -/
theorem radd_twice {d s n : Int} {t : Tl} {r x : List Tl} {done : Bool} (h : t.d = d) (hs : s ≤ t.s) : raddGo d s n (t :: r) x done = none := by simp [raddGo, h, hs]
theorem radd_same {d s n : Int} {t : Tl} {r x : List Tl} {done : Bool} (h : t.d = d) (hs : ¬ s ≤ t.s) : raddGo d s n (t :: r) x done = raddGo d s n r (x ++ [⟨t.d, s, wrap64 (t.n + n)⟩]) true := by
  simp only [raddGo, if_pos h, if_neg hs]
theorem radd_here {d s n : Int} {t : Tl} {r x : List Tl} (h : ¬ t.d = d) (hd : d < t.d) : raddGo d s n (t :: r) x false = raddGo d s n r (x ++ [⟨d, s, n⟩] ++ [t]) true := by
  simp only [raddGo, if_neg h]; rw [if_pos ⟨hd, trivial⟩]
theorem radd_past {d s n : Int} {t : Tl} {r x : List Tl} {done : Bool} (h : ¬ t.d = d) (hd : ¬ (d < t.d ∧ done = false)) : raddGo d s n (t :: r) x done = raddGo d s n r (x ++ [t]) done := by
  simp only [raddGo, if_neg h, if_neg hd]

theorem WF.snoc {x : List Tl} (h : WF x) {t : Tl} (ht : (-9223372036854775808 ≤ t.d ∧ t.d ≤ 9223372036854775807) ∧ (-9223372036854775808 ≤ t.s ∧ t.s ≤ 9223372036854775807) ∧ (-9223372036854775808 ≤ t.n ∧ t.n ≤ 9223372036854775807)) : WF (x ++ [t]) := h.append (WF.one ht)

theorem wrap64_bounds (x : Int) : -9223372036854775808 ≤ wrap64 x ∧ wrap64 x ≤ 9223372036854775807 := by unfold wrap64; omega

theorem addSpec_wf {l : List Tl} {d s n : Int} (hl : WF l) (hd : -9223372036854775808 ≤ d ∧ d ≤ 9223372036854775807) (hs : -9223372036854775808 ≤ s ∧ s ≤ 9223372036854775807) (hn : -9223372036854775808 ≤ n ∧ n ≤ 9223372036854775807) :
    WF (addSpec l d s n).1 := by
  unfold addSpec
  split
  · rename_i hc
    split
    · split
      · exact WF.nil
      · rename_i y hy
        have hso := (chk_iff.1 hc).1
        by_cases hh : has d l = true
        · obtain ⟨t, ht, htd, ha⟩ := addL_there (s := s) (n := n) hso hh
          rw [ha] at hy
          split at hy
          · cases hy
          · cases hy
            have h9 := hl t (List.mem_of_getElem? ht)
            exact ((hl.take _).append (WF.one (t := ⟨t.d, s, wrap64 (t.n + n)⟩) ⟨h9.1, hs, wrap64_bounds _⟩)).append (hl.drop _)
        · rw [addL_new hso (by simpa using hh)] at hy
          cases hy
          exact ((hl.take _).append (WF.one (t := ⟨d, s, n⟩) ⟨hd, hs, hn⟩)).append (hl.drop _)
    · exact WF.nil
  · exact WF.nil

theorem ins_wf {l : List Tl} (hl : WF l) {t : Tl} (ht : (-9223372036854775808 ≤ t.d ∧ t.d ≤ 9223372036854775807) ∧ (-9223372036854775808 ≤ t.s ∧ t.s ≤ 9223372036854775807) ∧ (-9223372036854775808 ≤ t.n ∧ t.n ≤ 9223372036854775807)) : WF (ins t l) := by
  induction l with
  | nil => exact WF.one ht
  | cons u r ih =>
    have hr : WF r := fun v hv => hl v (List.mem_cons_of_mem _ hv)
    have hu := hl u (List.mem_cons_self ..)
    have cons : ∀ {v : Tl} {q : List Tl}, ((-9223372036854775808 ≤ v.d ∧ v.d ≤ 9223372036854775807) ∧ (-9223372036854775808 ≤ v.s ∧ v.s ≤ 9223372036854775807) ∧ (-9223372036854775808 ≤ v.n ∧ v.n ≤ 9223372036854775807)) → WF q → WF (v :: q) := fun h1 h2 => (WF.one h1).append h2
    simp only [ins]
    split
    · exact cons hu (ih hr)
    · split
      · refine cons ?_ hr
        unfold mx; split
        · exact ht
        · exact hu
      · exact cons ht (cons hu hr)

theorem join_wf {b : List Tl} : ∀ {a : List Tl}, WF a → WF b → WF (join a b) := by
  induction b with
  | nil => intro a ha _; exact ha
  | cons t r ih => intro a ha hb; exact ih (ins_wf ha (hb t (List.mem_cons_self ..))) fun u hu => hb u (List.mem_cons_of_mem _ hu)

theorem joinSpec_wf {a b : List Tl} (ha : WF a) (hb : WF b) : WF (joinSpec a b).1 := by
  unfold joinSpec
  split
  · split
    · exact join_wf ha hb
    · exact WF.nil
  · exact WF.nil

theorem ins_length (l : List Tl) (t : Tl) : (ins t l).length ≤ l.length + 1 := by
  induction l with
  | nil => simp [ins]
  | cons u r ih => simp only [ins]; split <;> (try split) <;> simp <;> omega
theorem join_length (b : List Tl) : ∀ a, (join a b).length ≤ a.length + b.length := by
  induction b with
  | nil => intro a; simp [join]
  | cons t r ih => intro a; have := ih (ins t a); have := ins_length a t; rw [join_cons]; simp; omega
theorem addL_length {d s n : Int} (l : List Tl) : ∀ {y : List Tl}, addL d s n l = some y → y.length ≤ l.length + 1 := by
  induction l with
  | nil => intro y h; cases h; simp
  | cons t r ih =>
    intro y h
    simp only [addL] at h
    split at h
    · cases h1 : addL d s n r with
      | none => rw [h1] at h; cases h
      | some z => rw [h1] at h; cases h; have := ih h1; simp; omega
    · split at h
      · split at h
        · cases h
        · cases h; simp
      · cases h; simp
theorem addSpec_length (l : List Tl) (d s n : Int) : (addSpec l d s n).1.length ≤ l.length + 1 := by
  unfold addSpec
  split
  · split
    · split
      · simp
      · rename_i y hy; exact addL_length l hy
    · simp
  · simp
theorem joinSpec_length (a b : List Tl) : (joinSpec a b).1.length ≤ a.length + b.length := by
  unfold joinSpec
  split
  · split
    · exact join_length b a
    · simp
  · simp

theorem ins_new {l : List Tl} {t : Tl} {b : Int} (h : Sorted b l) (hh : has t.d l = false) : ins t l = l.take (pos t.d l) ++ [t] ++ l.drop (pos t.d l) := by
  induction h with
  | nil => rfl
  | cons h hs ih =>
    rename_i b u r
    simp only [ins, pos, has, get_cons] at hh ih ⊢
    by_cases c1 : u.d < t.d
    · rw [if_neg (by omega)] at hh
      rw [if_pos c1, if_pos c1, ih hh]; rfl
    · rw [if_neg c1, if_neg c1]
      by_cases c2 : u.d = t.d
      · rw [if_pos c2] at hh; cases hh
      · rw [if_neg c2]; rfl

theorem ins_there {l : List Tl} {t : Tl} {b : Int} (h : Sorted b l) (hh : has t.d l = true) : ∃ u, l[pos t.d l]? = some u ∧ u.d = t.d ∧ ins t l = l.take (pos t.d l) ++ [mx u t] ++ l.drop (pos t.d l + 1) := by
  induction h with
  | nil => cases hh
  | cons h hs ih =>
    rename_i b u r
    simp only [ins, pos, has, get_cons] at hh ih ⊢
    by_cases c1 : u.d < t.d
    · rw [if_neg (by omega)] at hh
      obtain ⟨v, h1, h2, h3⟩ := ih hh
      rw [if_pos c1, if_pos c1, h3]
      exact ⟨v, by simpa using h1, h2, rfl⟩
    · rw [if_neg c1, if_neg c1]
      by_cases c2 : u.d = t.d
      · rw [if_pos c2]; exact ⟨u, rfl, c2, rfl⟩
      · rw [if_neg c2, get_low hs (by omega)] at hh; cases hh

/-- cmp.Or(cmp.Compare(t.Seq, u.Seq), cmp.Compare(t.N, u.N)) > 0. -/
theorem greater_iff {u t : Tl} : 0 < or2 (cmp t.s u.s) (cmp t.n u.n) ↔ u.s < t.s ∨ (u.s = t.s ∧ u.n < t.n) := by
  rcases Int.lt_trichotomy t.s u.s with h | h | h
  · have : cmp t.s u.s = -1 := by unfold cmp; rw [if_pos h]
    rw [this, or2, if_neg (by omega)]; omega
  · have : cmp t.s u.s = 0 := by unfold cmp; rw [if_neg (by omega), if_neg (by omega)]
    rw [this, or2, if_pos rfl]
    rcases Int.lt_trichotomy t.n u.n with h2 | h2 | h2
    · have : cmp t.n u.n = -1 := by unfold cmp; rw [if_pos h2]
      rw [this]; omega
    · have : cmp t.n u.n = 0 := by unfold cmp; rw [if_neg (by omega), if_neg (by omega)]
      rw [this]; omega
    · have : cmp t.n u.n = 1 := by unfold cmp; rw [if_neg (by omega), if_pos h2]
      rw [this]; omega
  · have : cmp t.s u.s = 1 := by unfold cmp; rw [if_neg (by omega), if_pos h]
    rw [this, or2, if_neg (by omega)]; omega
theorem greater_t {u t : Tl} (h : 0 < or2 (cmp t.s u.s) (cmp t.n u.n)) : mx u t = t := by
  unfold mx; rw [if_pos (greater_iff.1 h)]
theorem greater_f {u t : Tl} (h : ¬ 0 < or2 (cmp t.s u.s) (cmp t.n u.n)) : mx u t = u := by
  unfold mx; rw [if_neg (fun h' => h (greater_iff.2 h'))]

theorem or2_chk {a b : List Tl} (h : ¬ (chk a = true ∧ chk b = true)) : or2 (chkE a) (chkE b) = 150 := by
  unfold or2 chkE
  cases ha : chk a <;> cases hb : chk b <;> simp [ha, hb] at h ⊢
theorem joinSpec_f {a b : List Tl} (h : ¬ (chk a = true ∧ chk b = true)) : joinSpec a b = ([], 150) := by
  unfold joinSpec
  cases ha : chk a <;> cases hb : chk b <;> simp [ha, hb] at h ⊢
theorem joinSpec_t {a b : List Tl} (ha : chk a = true) (hb : chk b = true) : joinSpec a b = (join a b, 0) := by simp [joinSpec, ha, hb]

end Tally
