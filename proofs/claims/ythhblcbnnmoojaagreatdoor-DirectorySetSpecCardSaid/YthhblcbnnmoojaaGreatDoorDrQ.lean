/- the laws of chapter 35, plainly: what an iterator over a path hands out; one path, two things; a change -/
import Derived.Test.YthhblcbnnmoojaaGreatDoorDrP
namespace Go.Dr
def bothD (n : Nat) (d x : List Nat) : List Nat := if n % 2 = 0 then d ++ x else x ++ d
def stepD (n : Nat) (d x : List Nat) : List Nat := Sha.tagged [112, 97, 105, 114] (bothD n d x)
theorem stepD_eq (n : Nat) (d x : List Nat) : stepD n d x = if n % 2 = 0 then pairD d x else pairD x d := by
  unfold stepD bothD pairD; split <;> rfl
theorem stepD_length (n : Nat) (d x : List Nat) : (stepD n d x).length = 32 := Sha.tagged_length _ _
theorem stepD_lt (n : Nat) (d x : List Nat) : ∀ u ∈ stepD n d x, u < 256 := Sha.tagged_lt _ _
/-- what an iterator over the way up hands out: nodes and their digests. -/
def climbS : Nat → List Nat → List (List Nat) → List (Nat × List Nat)
  | _, _, [] => []
  | n, d, x :: p => (n / 2, stepD n d x) :: climbS (n / 2) (stepD n d x) p
theorem climbS_length : ∀ (p : List (List Nat)) (n : Nat) (d : List Nat), (climbS n d p).length = p.length
  | [], _, _ => rfl
  | x :: p, n, d => by rw [climbS, List.length_cons, climbS_length p, List.length_cons]
theorem climbD_step (n : Nat) (d x : List Nat) (p : List (List Nat)) : climbD n d (x :: p) = climbD (n / 2) (stepD n d x) p := by
  rw [climbD, stepD_eq]
theorem climbD_take (n : Nat) (d : List Nat) : ∀ (p : List (List Nat)) (k : Nat) (x : List Nat), p[k]? = some x → climbD n d (p.take (k + 1)) = stepD (n / 2 ^ k) (climbD n d (p.take k)) x := by
  intro p
  induction p generalizing n d with
  | nil => intro k x h; simp at h
  | cons y p ih =>
    intro k x h
    cases k with
    | zero =>
      simp only [List.getElem?_cons_zero, Option.some.injEq] at h
      subst h
      rw [List.take_succ_cons, List.take_zero, climbD_step, List.take_zero, climbD, climbD, Nat.pow_zero, Nat.div_one]
    | succ k =>
      rw [List.take_succ_cons, climbD_step, ih _ _ k x (by simpa using h), List.take_succ_cons, climbD_step, Nat.div_div_eq_div_mul, Nat.pow_succ, Nat.mul_comm 2]
theorem climbS_at (n : Nat) (d : List Nat) : ∀ (p : List (List Nat)) (k : Nat), k < p.length → (climbS n d p)[k]? = some (n / 2 ^ (k + 1), climbD n d (p.take (k + 1))) := by
  intro p
  induction p generalizing n d with
  | nil => intro k h; simp at h
  | cons y p ih =>
    intro k h
    cases k with
    | zero => rw [climbS, List.getElem?_cons_zero, List.take_succ_cons, List.take_zero, climbD_step, climbD, Nat.pow_one]
    | succ k =>
      rw [climbS, List.getElem?_cons_succ, ih _ _ k (by simpa using h), List.take_succ_cons, climbD_step, Nat.div_div_eq_div_mul, Nat.pow_succ 2 (k + 1), Nat.mul_comm 2]
theorem climbS_take (n : Nat) (d : List Nat) (p : List (List Nat)) (k : Nat) (h : k < p.length) : (climbS n d p).take (k + 1) = (climbS n d p).take k ++ [(n / 2 ^ (k + 1), climbD n d (p.take (k + 1)))] := by
  rw [List.take_add_one, climbS_at n d p k h]; rfl
theorem climbD_take_length (n : Nat) {d : List Nat} (hd : d.length = 32) (p : List (List Nat)) (k : Nat) : (climbD n d (p.take k)).length = 32 := by
  induction p generalizing n d k with
  | nil => rw [List.take_nil]; exact hd
  | cons y p ih =>
    cases k with
    | zero => exact hd
    | succ k => rw [List.take_succ_cons, climbD_step]; exact ih _ (stepD_length _ _ _) k
theorem climbD_take_lt (n : Nat) {d : List Nat} (hd : ∀ u ∈ d, u < 256) (p : List (List Nat)) (k : Nat) : ∀ u ∈ climbD n d (p.take k), u < 256 := by
  induction p generalizing n d k with
  | nil => rw [List.take_nil]; exact hd
  | cons y p ih =>
    cases k with
    | zero => exact hd
    | succ k => rw [List.take_succ_cons, climbD_step]; exact ih _ (stepD_lt _ _ _) k
/-- what Verify's loop leaves. -/
def lastOk (root : List Nat) (l : List (Nat × List Nat)) : Bool := match l.getLast? with | none => false | some x => decide (x.1 = 1) && decide (x.2 = root)
theorem lastOk_snoc (root : List Nat) (l : List (Nat × List Nat)) (x : Nat × List Nat) : lastOk root (l ++ [x]) = (decide (x.1 = 1) && decide (x.2 = root)) := by
  unfold lastOk; rw [List.getLast?_concat]
theorem lastOk_climb {n : Nat} {d root : List Nat} {p : List (List Nat)} (hp : p.length = 9) (hn : n / 2 ^ 9 = 1) : lastOk root (climbS n d p) = decide (climbD n d p = root) := by
  have h := climbS_at n d p 8 (by omega)
  have e : (climbS n d p).getLast? = (climbS n d p)[8]? := by rw [List.getLast?_eq_getElem?, climbS_length, hp]
  unfold lastOk
  rw [e, h, List.take_of_length_le (by omega)]
  show (decide (n / 2 ^ 9 = 1) && decide (climbD n d p = root)) = _
  rw [hn]; simp
theorem leafOf_length (x : Lst) (none : Bool) : (leafOf x none).length = 32 := by unfold leafOf; split <;> exact Sha.tagged_length _ _
theorem leafOf_lt (x : Lst) (none : Bool) : ∀ u ∈ leafOf x none, u < 256 := by unfold leafOf; split <;> exact Sha.tagged_lt _ _

/-! ### one path that proves two things -/
def bothS : Nat → List Nat → List (List Nat) → List (List Nat)
  | _, _, [] => []
  | n, d, x :: p => bothD n d x :: bothS (n / 2) (stepD n d x) p
theorem bothS_length : ∀ (p : List (List Nat)) (n : Nat) (d : List Nat), (bothS n d p).length = p.length
  | [], _, _ => rfl
  | x :: p, n, d => by rw [bothS, List.length_cons, bothS_length p, List.length_cons]
theorem bothS_at (n : Nat) (d : List Nat) : ∀ (p : List (List Nat)) (k : Nat) (x : List Nat), p[k]? = some x → (bothS n d p)[k]? = some (bothD (n / 2 ^ k) (climbD n d (p.take k)) x) := by
  intro p
  induction p generalizing n d with
  | nil => intro k x h; simp at h
  | cons y p ih =>
    intro k x h
    cases k with
    | zero =>
      simp only [List.getElem?_cons_zero, Option.some.injEq] at h
      subst h
      rw [bothS, List.getElem?_cons_zero, List.take_zero, climbD, Nat.pow_zero, Nat.div_one]
    | succ k =>
      rw [bothS, List.getElem?_cons_succ, ih _ _ k x (by simpa using h), List.take_succ_cons, climbD_step, Nat.div_div_eq_div_mul, Nat.pow_succ 2 k, Nat.mul_comm 2]
theorem bothD_ne {n : Nat} {d e x : List Nat} (h : d ≠ e) : bothD n d x ≠ bothD n e x := by
  unfold bothD
  split
  · exact fun he => h (List.append_cancel_right he)
  · exact fun he => h (List.append_cancel_left he)
theorem once_go : ∀ (p : List (List Nat)) (n : Nat) {d e : List Nat}, d ≠ e → climbD n d p = climbD n e p →
    ∃ (k : Nat) (x y h : List Nat), (bothS n d p)[k]? = some x ∧ (bothS n e p)[k]? = some y ∧ x ≠ y ∧ ((climbS n d p).map (·.2))[k]? = some h ∧ ((climbS n e p).map (·.2))[k]? = some h
  | [], _, _, _, hne, h => absurd h hne
  | z :: p, n, d, e, hne, h => by
    by_cases hs : stepD n d z = stepD n e z
    · exact ⟨0, _, _, stepD n d z, rfl, rfl, bothD_ne hne, rfl, by rw [hs]; rfl⟩
    · rw [climbD_step, climbD_step] at h
      obtain ⟨k, x, y, g, h1, h2, h3, h4, h5⟩ := once_go p (n / 2) hs h
      exact ⟨k + 1, x, y, g, by rw [bothS, List.getElem?_cons_succ]; exact h1, by rw [bothS, List.getElem?_cons_succ]; exact h2, h3, by rw [climbS, List.map_cons, List.getElem?_cons_succ]; exact h4, by rw [climbS, List.map_cons, List.getElem?_cons_succ]; exact h5⟩

/-! ### a change -/
/-- the listing that a law takes for a device: that of the list, or an empty one. -/
def ofZ (l : List Lst) (dev : Int) : Lst := (ofL l dev).getD zeroL
theorem oldV_ofZ (l : List Lst) (dev : Int) : oldV l dev = (ofZ l dev).vers := by
  unfold oldV ofZ; cases ofL l dev <;> rfl
theorem leaf_none_dev {l : List Lst} {dev : Int} (h : ofL l dev = none) (x : Lst) (hx : x.dev = dev) : leafOf x true = leafD l dev := by
  subst hx; exact leaf_none h
/-- the law DirectoryProves. -/
theorem proves {l : List Lst} {dev : Int} (h : 0 ≤ dev ∧ dev < 512) {x : Lst} {listed : Bool} (hx : (ofL l dev = some x ∧ listed = true) ∨ (ofL l dev = none ∧ x.dev = dev ∧ listed = false)) :
    verP (rootD l) x (!listed) (pathD l dev) = true := by
  rcases hx with ⟨h1, rfl⟩ | ⟨h1, h2, rfl⟩
  · obtain ⟨h3, h4⟩ := leaf_some h1
    subst h3
    exact verP_path h h4
  · subst h2
    exact verP_path h (leaf_none h1)
/-- the law DirectoryChange. -/
theorem change {l : List Lst} {x : Lst} (hx : 0 ≤ x.dev ∧ x.dev < 512) : verP (rootD (insL x l)) x false (pathD (insL x l) x.dev) = true := by
  have := proves (l := insL x l) (dev := x.dev) hx (x := x) (listed := true) (.inl ⟨by rw [ofL_ins, if_pos rfl], rfl⟩)
  exact this
theorem change_other {l : List Lst} {x z : Lst} {dev : Int} {listed : Bool} (hd : 0 ≤ dev ∧ dev < 512)
    (h : (dev = x.dev ∧ z = x ∧ listed = true) ∨ (dev ≠ x.dev ∧ ofL l dev = some z ∧ listed = true) ∨ (dev ≠ x.dev ∧ ofL l dev = none ∧ z.dev = dev ∧ listed = false)) :
    verP (rootD (insL x l)) z (!listed) (pathD (insL x l) dev) = true := by
  rcases h with ⟨rfl, rfl, rfl⟩ | ⟨h1, h2, rfl⟩ | ⟨h1, h2, h3, rfl⟩
  · exact change hd
  · exact proves hd (.inl ⟨by rw [ofL_ins, if_neg h1]; exact h2, rfl⟩)
  · exact proves hd (.inr ⟨by rw [ofL_ins, if_neg h1]; exact h2, h3, rfl⟩)
end Go.Dr
