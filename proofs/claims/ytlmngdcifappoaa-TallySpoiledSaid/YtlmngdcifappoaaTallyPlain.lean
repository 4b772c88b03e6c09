/- The plain law of tallies: sorted lists of tallies as finite maps; no program in sight. -/
import Derived.RowKit
namespace Tally
open Go.RowKit (wrap64)

structure Tl where
  d : Int
  s : Int
  n : Int
deriving DecidableEq

theorem Tl.ext' {a b : Tl} (h1 : a.d = b.d) (h2 : a.s = b.s) (h3 : a.n = b.n) : a = b := by
  cases a; cases b; simp_all

def dot (d s : Int) : Bool := decide (0 ≤ d) && decide (d < 512) && decide (1 ≤ s) && decide (s ≤ 1048576)

def chkFrom : Int → List Tl → Bool
  | _, [] => true
  | last, t :: r => dot t.d t.s && decide (last < t.d) && chkFrom t.d r

def chk (l : List Tl) : Bool := chkFrom (-1) l
/-- cmp.Compare on ints. -/
def cmp (x y : Int) : Int := if x < y then -1 else if y < x then 1 else 0
/-- cmp.Or of two ints. -/
def or2 (x y : Int) : Int := if x = 0 then y else x
def same (a b : List Tl) : Bool := decide (a = b)
theorem same_cons (t : Tl) (a b : List Tl) : same (t :: a) (t :: b) = same a b := by simp [same]
theorem same_ne {t u : Tl} (h : ¬ t = u) {a b : List Tl} : same (t :: a) (u :: b) = false := by simp [same, h]
theorem same_len {a b : List Tl} (h : a.length ≠ b.length) : same a b = false := by
  simp only [same, decide_eq_false_iff_not]; intro e; exact h (by rw [e])
theorem same_self (a : List Tl) : same a a = true := by simp [same]
def teq (t u : Tl) : Bool := decide (t = u)
theorem teq_t {t u : Tl} (h : t = u) : teq t u = true := by simp [teq, h]
theorem teq_f {t u : Tl} (h : ¬ t = u) : teq t u = false := by simp [teq, h]
/-- the error code of Check. -/
def chkE (l : List Tl) : Int := if chk l then 0 else 150
theorem chkE_t {l : List Tl} (h : chk l = true) : chkE l = 0 := by simp [chkE, h]
theorem chkE_f {l : List Tl} (h : chk l = false) : chkE l = 150 := by simp [chkE, h]
theorem chkFrom_t {last : Int} {t : Tl} {r : List Tl} (h1 : dot t.d t.s = true) (h2 : last < t.d) : chkFrom last (t :: r) = chkFrom t.d r := by simp [chkFrom, h1, h2]
theorem chkFrom_dot_f {last : Int} {t : Tl} {r : List Tl} (h1 : dot t.d t.s = false) : chkFrom last (t :: r) = false := by simp [chkFrom, h1]
theorem chkFrom_le {last : Int} {t : Tl} {r : List Tl} (h1 : t.d ≤ last) : chkFrom last (t :: r) = false := by
  have : ¬ last < t.d := by omega
  simp [chkFrom, this]
theorem dot_t {d s : Int} (h : dot d s = true) : 0 ≤ d ∧ d < 512 ∧ 1 ≤ s ∧ s ≤ 1048576 := by simp [dot] at h; omega

def sumFrom (a : Int) (l : List Tl) : Int := l.foldl (fun a t => wrap64 (a + t.n)) a
def value (l : List Tl) : Int := sumFrom 0 l

/-- none: the operation is there already. -/
def addL (d s n : Int) : List Tl → Option (List Tl)
  | [] => some [⟨d, s, n⟩]
  | t :: r =>
    if t.d < d then (addL d s n r).map (t :: ·)
    else if t.d = d then (if s ≤ t.s then none else some (⟨d, s, wrap64 (t.n + n)⟩ :: r))
    else some (⟨d, s, n⟩ :: t :: r)

def mx (u t : Tl) : Tl := if u.s < t.s ∨ (u.s = t.s ∧ u.n < t.n) then t else u

def ins (t : Tl) : List Tl → List Tl
  | [] => [t]
  | u :: r => if u.d < t.d then u :: ins t r else if u.d = t.d then mx u t :: r else t :: u :: r

def join (a b : List Tl) : List Tl := b.foldl (fun x t => ins t x) a

def merge : List Tl → List Tl → List Tl
  | [], b => b
  | a :: r, b => mergeIn a (merge r) b
where
  mergeIn (a : Tl) (m : List Tl → List Tl) : List Tl → List Tl
    | [] => a :: m []
    | b :: q => if a.d < b.d then a :: m (b :: q) else if b.d < a.d then b :: mergeIn a m q else mx a b :: m q

theorem merge_nil_left (b : List Tl) : merge [] b = b := by unfold merge; rfl
theorem merge_nil_right : ∀ a : List Tl, merge a [] = a
  | [] => by unfold merge; rfl
  | a :: r => by unfold merge merge.mergeIn; rw [merge_nil_right r]
theorem merge_cons (a b : Tl) (r q : List Tl) : merge (a :: r) (b :: q) =
    if a.d < b.d then a :: merge r (b :: q) else if b.d < a.d then b :: merge (a :: r) q else mx a b :: merge r q := by
  conv => lhs; unfold merge merge.mergeIn
  rfl

/-! ### sorted lists -/
inductive Sorted : Int → List Tl → Prop
  | nil (k : Int) : Sorted k []
  | cons {k : Int} {t : Tl} {r : List Tl} (h : k < t.d) (hs : Sorted t.d r) : Sorted k (t :: r)

theorem Sorted.mono {k k' : Int} {l : List Tl} (h : Sorted k l) (hk : k' ≤ k) : Sorted k' l := by
  cases h with
  | nil => exact .nil _
  | cons h hs => exact .cons (by omega) hs

def get (l : List Tl) (d : Int) : Option (Int × Int) :=
  match l with
  | [] => none
  | t :: r => if t.d = d then some (t.s, t.n) else get r d

theorem get_cons (t : Tl) (r : List Tl) (d : Int) : get (t :: r) d = if t.d = d then some (t.s, t.n) else get r d := rfl
theorem get_nil (d : Int) : get [] d = none := rfl

theorem get_low {k d : Int} {l : List Tl} (h : Sorted k l) (hd : d ≤ k) : get l d = none := by
  induction h with
  | nil => rfl
  | cons h _ ih => rw [get_cons, if_neg (by omega)]; exact ih (by omega)

theorem ext {k : Int} {a b : List Tl} (ha : Sorted k a) (hb : Sorted k b) (h : ∀ d, get a d = get b d) : a = b := by
  induction ha generalizing b with
  | nil =>
    cases hb with
    | nil => rfl
    | cons _ _ => rename_i t r _ _; have := h t.d; simp [get] at this
  | cons h1 hs ih =>
    rename_i k t r
    cases hb with
    | nil => have := h t.d; simp [get] at this
    | cons h2 hs2 =>
      rename_i u q
      have hd : t.d = u.d := by
        rcases Int.lt_trichotomy t.d u.d with hlt | he | hlt
        · have := h t.d
          rw [get_cons, if_pos rfl, get_cons, if_neg (by omega), get_low hs2 (by omega)] at this
          cases this
        · exact he
        · have := h u.d
          rw [get_cons, if_neg (by omega), get_cons, if_pos rfl, get_low hs (by omega)] at this
          cases this
      have h0 := h t.d
      rw [get_cons, if_pos rfl, get_cons, if_pos hd.symm] at h0
      simp at h0
      have htu : t = u := Tl.ext' hd h0.1 h0.2
      subst htu
      congr 1
      refine ih hs2 fun d => ?_
      by_cases e : t.d = d
      · subst e; rw [get_low hs (by omega), get_low hs2 (by omega)]
      · have := h d
        rwa [get_cons, if_neg e, get_cons, if_neg e] at this

theorem chkFrom_sorted {k : Int} {l : List Tl} (h : chkFrom k l = true) : Sorted k l := by
  induction l generalizing k with
  | nil => exact .nil _
  | cons t r ih =>
    simp [chkFrom] at h
    exact .cons h.1.2 (ih h.2)

theorem chkFrom_dot {k : Int} {l : List Tl} (h : chkFrom k l = true) : ∀ t ∈ l, dot t.d t.s = true := by
  induction l generalizing k with
  | nil => intro t ht; cases ht
  | cons t r ih =>
    simp [chkFrom] at h
    intro u hu
    cases hu with
    | head => exact h.1.1
    | tail _ hu => exact ih h.2 u hu

theorem chkFrom_mk {k : Int} {l : List Tl} (hs : Sorted k l) (hd : ∀ t ∈ l, dot t.d t.s = true) : chkFrom k l = true := by
  induction hs with
  | nil => rfl
  | cons h hs ih =>
    simp [chkFrom]
    exact ⟨⟨hd _ (List.mem_cons_self ..), h⟩, ih fun t ht => hd t (List.mem_cons_of_mem _ ht)⟩

/-! ### where a device belongs -/
def pos (k : Int) : List Tl → Nat
  | [] => 0
  | t :: r => if t.d < k then pos k r + 1 else 0
def has (k : Int) (l : List Tl) : Bool := (get l k).isSome

theorem pos_le (k : Int) (l : List Tl) : pos k l ≤ l.length := by
  induction l with
  | nil => exact Nat.le_refl _
  | cons t r ih => simp only [pos]; split <;> simp <;> omega

theorem pos_eq {k : Int} {l : List Tl} : ∀ {i : Nat}, i ≤ l.length → (∀ p t, p < i → l[p]? = some t → t.d < k) → (∀ p t, i ≤ p → l[p]? = some t → k ≤ t.d) → pos k l = i := by
  induction l with
  | nil => intro i hi _ _; simp at hi; subst hi; rfl
  | cons t r ih =>
    intro i hi h1 h2
    simp only [pos]
    cases i with
    | zero => have := h2 0 t (Nat.le_refl _) rfl; rw [if_neg (by omega)]
    | succ i =>
      have := h1 0 t (by omega) rfl
      rw [if_pos this, ih (i := i) (by simpa using hi) (fun p u hp hu => h1 (p + 1) u (by omega) (by simpa using hu)) (fun p u hp hu => h2 (p + 1) u (by omega) (by simpa using hu))]

theorem Sorted.all {k : Int} {l : List Tl} (h : Sorted k l) : ∀ t ∈ l, k < t.d := by
  induction h with
  | nil => intro t ht; cases ht
  | cons h hs ih =>
    intro t ht
    cases ht with
    | head => exact h
    | tail _ ht => have := ih t ht; omega

theorem Sorted.lt {k : Int} {l : List Tl} (h : Sorted k l) : ∀ {p q : Nat} {t u : Tl}, p < q → l[p]? = some t → l[q]? = some u → t.d < u.d := by
  induction h with
  | nil => intro p q t u _ ht; cases ht
  | cons h hs ih =>
    intro p q t u hpq ht hu
    cases q with
    | zero => omega
    | succ q =>
      rw [List.getElem?_cons_succ] at hu
      cases p with
      | zero => cases ht; exact hs.all u (List.mem_of_getElem? hu)
      | succ p => exact ih (p := p) (q := q) (by omega) (by simpa using ht) hu

/-- the element at the place where a device belongs is its own, or there is none. -/
theorem has_pos {k b : Int} {l : List Tl} (h : Sorted b l) : has k l = (match l[pos k l]? with | some t => decide (t.d = k) | none => false) := by
  induction h with
  | nil => rfl
  | cons h hs ih =>
    rename_i b t r
    simp only [has, pos, get_cons] at ih ⊢
    by_cases c : t.d < k
    · rw [if_pos c, if_neg (by omega), List.getElem?_cons_succ]; exact ih
    · rw [if_neg c]
      by_cases e : t.d = k
      · simp [e]
      · rw [if_neg e, get_low hs (by omega)]; simp [e]

/-! ### ins -/
def omx (x y : Option (Int × Int)) : Option (Int × Int) :=
  match x, y with
  | none, y => y
  | x, none => x
  | some (a, b), some (c, e) => if a < c ∨ (a = c ∧ b < e) then some (c, e) else some (a, b)

theorem omx_comm (x y : Option (Int × Int)) : omx x y = omx y x := by
  rcases x with _ | ⟨a, b⟩ <;> rcases y with _ | ⟨c, e⟩ <;> simp only [omx]
  split <;> split <;> first | rfl | omega | (congr 2 <;> omega)

theorem omx_some (a b c e : Int) : omx (some (a, b)) (some (c, e)) = if a < c ∨ (a = c ∧ b < e) then some (c, e) else some (a, b) := rfl

theorem omx_none' (x : Option (Int × Int)) : omx x none = x := by rcases x with _ | ⟨a, b⟩ <;> rfl
theorem omx_assoc (x y z : Option (Int × Int)) : omx (omx x y) z = omx x (omx y z) := by
  rcases x with _ | ⟨a, b⟩
  · cases y <;> cases z <;> rfl
  rcases y with _ | ⟨c, e⟩
  · cases z <;> rfl
  rcases z with _ | ⟨f, g⟩
  · rw [omx_none', omx_none']
  rw [omx_some, omx_some]
  by_cases h1 : a < c ∨ (a = c ∧ b < e) <;> by_cases h2 : c < f ∨ (c = f ∧ e < g)
  · rw [if_pos h1, if_pos h2, omx_some, if_pos h2, omx_some, if_pos (by omega)]
  · rw [if_pos h1, if_neg h2, omx_some, if_neg h2, omx_some, if_pos h1]
  · rw [if_neg h1, if_pos h2]
  · rw [if_neg h1, if_neg h2, omx_some, omx_some, if_neg (by omega), if_neg h1]

theorem omx_self (x : Option (Int × Int)) : omx x x = x := by
  rcases x with _ | ⟨a, b⟩ <;> simp [omx]

theorem mx_d {u t : Tl} (h : u.d = t.d) : (mx u t).d = u.d := by unfold mx; split <;> simp [h]
theorem mx_get {u t : Tl} : some ((mx u t).s, (mx u t).n) = omx (some (u.s, u.n)) (some (t.s, t.n)) := by
  unfold mx; simp only [omx]; split <;> rfl

theorem ins_sorted {k : Int} {l : List Tl} {t : Tl} (h : Sorted k l) (ht : k < t.d) : Sorted k (ins t l) := by
  induction h with
  | nil => exact .cons ht (.nil _)
  | cons h hs ih =>
    rename_i k u r
    simp only [ins]
    split
    · exact .cons h (ih (by omega))
    · split
      · rename_i e; exact .cons (by rw [mx_d e]; omega) (by rw [mx_d e]; exact hs)
      · exact .cons ht (.cons (by omega) hs)

theorem ins_get {k : Int} {l : List Tl} {t : Tl} (h : Sorted k l) (d : Int) : get (ins t l) d = if d = t.d then omx (get l d) (some (t.s, t.n)) else get l d := by
  induction h with
  | nil =>
    simp only [ins, get_cons, get_nil, omx]
    by_cases e : d = t.d
    · rw [if_pos e.symm, if_pos e]
    · rw [if_neg (fun x => e x.symm), if_neg e]
  | cons h hs ih =>
    rename_i k u r
    simp only [ins]
    by_cases c1 : u.d < t.d
    · rw [if_pos c1, get_cons, ih, get_cons]
      by_cases e : u.d = d
      · rw [if_pos e, if_pos e, if_neg (by omega)]
      · rw [if_neg e, if_neg e]
    · rw [if_neg c1]
      by_cases c2 : u.d = t.d
      · rw [if_pos c2, get_cons, get_cons, mx_d c2]
        by_cases e : u.d = d
        · rw [if_pos e, if_pos e, if_pos (by omega), mx_get]
        · rw [if_neg e, if_neg e, if_neg (by omega)]
      · rw [if_neg c2, get_cons]
        by_cases e : t.d = d
        · rw [if_pos e, if_pos e.symm, get_cons, if_neg (by omega), get_low hs (by omega)]; rfl
        · rw [if_neg e, if_neg (fun x => e x.symm)]

theorem join_nil (a : List Tl) : join a [] = a := rfl
theorem join_cons (a r : List Tl) (t : Tl) : join a (t :: r) = join (ins t a) r := rfl

theorem join_sorted {k : Int} (b : List Tl) : ∀ {a : List Tl}, Sorted k a → (∀ t ∈ b, k < t.d) → Sorted k (join a b) := by
  induction b with
  | nil => intro a ha _; exact ha
  | cons t r ih => intro a ha hb; exact ih (ins_sorted ha (hb t (List.mem_cons_self ..))) fun u hu => hb u (List.mem_cons_of_mem _ hu)

theorem omx_none (x : Option (Int × Int)) : omx x none = x := by rcases x with _ | ⟨a, b⟩ <;> rfl
theorem none_omx (x : Option (Int × Int)) : omx none x = x := by rcases x with _ | ⟨a, b⟩ <;> rfl

theorem join_get {k : Int} {b : List Tl} (hb : Sorted k b) : ∀ {a : List Tl}, Sorted k a → ∀ d, get (join a b) d = omx (get a d) (get b d) := by
  induction hb with
  | nil => intro a _ d; rw [join_nil, get_nil, omx_none]
  | cons h hs ih =>
    rename_i k t r
    intro a ha d
    have hs' : Sorted k r := hs.mono (by omega)
    rw [join_cons]
    have key : ∀ {b : List Tl}, Sorted k b → (∀ u ∈ r, k < u.d) → get (join b r) d = omx (get b d) (get r d) := by
      clear ih
      have gen : ∀ (q : List Tl) (k' : Int), Sorted k' q → k ≤ k' → ∀ {b : List Tl}, Sorted k b → get (join b q) d = omx (get b d) (get q d) := by
        intro q
        induction q with
        | nil => intro k' _ _ b _; rw [join_nil, get_nil, omx_none]
        | cons u q ih =>
          intro k' hq hk b hb
          cases hq with
          | cons hu hq =>
            rw [join_cons, ih u.d hq (by omega) (ins_sorted hb (by omega)), ins_get hb, get_cons]
            by_cases e : d = u.d
            · subst e; rw [if_pos rfl, if_pos rfl, get_low hq (by omega), omx_none]
            · rw [if_neg e, if_neg (fun x => e x.symm)]
      intro b hb _
      exact gen r t.d hs (by omega) hb
    rw [key (ins_sorted ha h) hs'.all, ins_get ha, get_cons]
    by_cases e : d = t.d
    · subst e; rw [if_pos rfl, if_pos rfl, get_low hs (by omega), omx_none]
    · rw [if_neg e, if_neg (fun x => e x.symm)]

theorem merge_sorted (a : List Tl) : ∀ {k : Int} {b : List Tl}, Sorted k a → Sorted k b → Sorted k (merge a b) ∧ ∀ d, get (merge a b) d = omx (get a d) (get b d) := by
  induction a with
  | nil => intro k b _ hb; rw [merge_nil_left]; exact ⟨hb, fun d => by rw [get_nil, none_omx]⟩
  | cons t r ih =>
    intro k b ha hb
    induction hb with
    | nil => rw [merge_nil_right]; exact ⟨ha, fun d => by rw [get_nil, omx_none]⟩
    | cons h hs ihb =>
      rename_i k u q
      rw [merge_cons]
      cases ha with
      | cons ht hr =>
        by_cases c1 : t.d < u.d
        · rw [if_pos c1]
          obtain ⟨s1, g1⟩ := ih hr (.cons c1 hs)
          refine ⟨.cons ht s1, fun d => ?_⟩
          rw [get_cons, g1, get_cons t r]
          by_cases e : t.d = d
          · rw [if_pos e, if_pos e, get_low (l := u :: q) (k := t.d) (.cons c1 hs) (by omega), omx_none]
          · rw [if_neg e, if_neg e]
        · rw [if_neg c1]
          by_cases c2 : u.d < t.d
          · rw [if_pos c2]
            obtain ⟨s1, g1⟩ := ihb (.cons c2 hr)
            refine ⟨.cons h s1, fun d => ?_⟩
            rw [get_cons, g1, get_cons u]
            by_cases e : u.d = d
            · rw [if_pos e, if_pos e, get_low (l := t :: r) (k := u.d) (.cons c2 hr) (by omega), none_omx]
            · rw [if_neg e, if_neg e]
          · rw [if_neg c2]
            have e0 : t.d = u.d := by omega
            obtain ⟨s1, g1⟩ := ih hr (e0 ▸ hs)
            refine ⟨.cons (by rw [mx_d e0]; exact ht) (by rw [mx_d e0]; exact s1), fun d => ?_⟩
            rw [get_cons, mx_d e0, g1, get_cons, get_cons u]
            by_cases e : t.d = d
            · rw [if_pos e, if_pos e, if_pos (by omega), mx_get]
            · rw [if_neg e, if_neg e, if_neg (by omega)]

theorem join_eq_merge {k : Int} {a b : List Tl} (ha : Sorted k a) (hb : Sorted k b) : join a b = merge a b :=
  ext (join_sorted b ha hb.all) (merge_sorted a ha hb).1 fun d => by rw [join_get hb ha, (merge_sorted a ha hb).2]

/-! ### add -/
theorem addL_spec {k : Int} {l : List Tl} (h : Sorted k l) {d s n : Int} (hd : k < d) :
    (addL d s n l = none ∧ ∃ x, get l d = some x ∧ s ≤ x.1) ∨
    ∃ y, addL d s n l = some y ∧ Sorted k y ∧ (∀ d', get y d' = if d' = d then (match get l d with | none => some (s, n) | some x => some (s, wrap64 (x.2 + n))) else get l d') ∧ (∀ x, get l d = some x → x.1 < s) := by
  induction h with
  | nil => right; exact ⟨_, rfl, .cons hd (.nil _), fun d' => by rw [get_cons, get_nil, get_nil]; by_cases e : d' = d <;> simp [e]; intro h; exact absurd h.symm e, fun x hx => by cases hx⟩
  | cons h hs ih =>
    rename_i k t r
    simp only [addL]
    by_cases c1 : t.d < d
    · rw [if_pos c1]
      have e : ¬ t.d = d := by omega
      rw [get_cons, if_neg e]
      rcases ih c1 with ⟨h1, x, h2, h3⟩ | ⟨y, h1, h2, h3, h4⟩
      · left; exact ⟨by rw [h1]; rfl, x, h2, h3⟩
      · right
        refine ⟨t :: y, by rw [h1]; rfl, .cons h h2, fun d' => ?_, h4⟩
        rw [get_cons, h3, get_cons t r d']
        by_cases e1 : t.d = d'
        · rw [if_pos e1, if_pos e1, if_neg (by omega)]
        · rw [if_neg e1, if_neg e1]
    · rw [if_neg c1]
      by_cases c2 : t.d = d
      · rw [if_pos c2, get_cons, if_pos c2]
        by_cases c3 : s ≤ t.s
        · rw [if_pos c3]; left; exact ⟨rfl, _, rfl, c3⟩
        · rw [if_neg c3]; right
          refine ⟨_, rfl, .cons hd (c2 ▸ hs), fun d' => ?_, fun x hx => by cases hx; show t.s < s; omega⟩
          rw [get_cons, get_cons]
          by_cases e1 : d' = d
          · rw [if_pos e1.symm, if_pos e1]
          · rw [if_neg (fun x => e1 x.symm), if_neg e1, if_neg (by omega)]
      · rw [if_neg c2]; right
        rw [get_cons, if_neg c2, get_low hs (by omega)]
        refine ⟨_, rfl, .cons hd (.cons (by show d < t.d; omega) hs), fun d' => ?_, fun x hx => by cases hx⟩
        rw [get_cons]
        by_cases e1 : d' = d
        · rw [if_pos e1.symm, if_pos e1]
        · rw [if_neg (fun x => e1 x.symm), if_neg e1]

theorem wrap64_add (a b : Int) : wrap64 (wrap64 a + b) = wrap64 (a + b) := by unfold wrap64; omega
theorem wrap64_add' (a b : Int) : wrap64 (a + wrap64 b) = wrap64 (a + b) := by unfold wrap64; omega
theorem wrap64_idem (a : Int) : wrap64 (wrap64 a) = wrap64 a := by unfold wrap64; omega

def total (l : List Tl) : Int := (l.map Tl.n).foldr (· + ·) 0
theorem total_cons (t : Tl) (r : List Tl) : total (t :: r) = t.n + total r := rfl
theorem sumFrom_total (l : List Tl) : ∀ a, wrap64 (sumFrom a l) = wrap64 (a + total l) := by
  induction l with
  | nil => intro a; show wrap64 a = wrap64 (a + 0); rw [Int.add_zero]
  | cons t r ih => intro a; show wrap64 (sumFrom (wrap64 (a + t.n)) r) = _; rw [ih, wrap64_add, total_cons, Int.add_assoc]

theorem sumFrom_wrap (l : List Tl) : ∀ a, wrap64 a = a → wrap64 (sumFrom a l) = sumFrom a l := by
  induction l with
  | nil => intro a h; exact h
  | cons t r ih => intro a _; exact ih _ (wrap64_idem _)

theorem value_total (l : List Tl) : value l = wrap64 (total l) := by
  have := sumFrom_total l 0
  rw [sumFrom_wrap l 0 rfl, Int.zero_add] at this
  exact this

theorem addL_total {d s n : Int} (l : List Tl) : ∀ {y : List Tl}, addL d s n l = some y → wrap64 (total y) = wrap64 (total l + n) := by
  induction l with
  | nil => intro y h; cases h; show wrap64 (n + 0) = wrap64 (0 + n); congr 1; omega
  | cons t r ih =>
    intro y h
    simp only [addL] at h
    split at h
    · cases h1 : addL d s n r with
      | none => rw [h1] at h; cases h
      | some z =>
        rw [h1] at h; cases h
        rw [total_cons, total_cons, ← wrap64_add', ih h1, wrap64_add', Int.add_assoc]
    · split at h
      · split at h
        · cases h
        · cases h; rw [total_cons, total_cons]; show wrap64 (wrap64 (t.n + n) + total r) = _; rw [wrap64_add]; congr 1; omega
      · cases h; rw [total_cons, total_cons]; congr 1; show n + (t.n + total r) = _; omega

theorem dot_get {l : List Tl} {k : Int} (h : Sorted k l) : (∀ t ∈ l, dot t.d t.s = true) ↔ ∀ d x, get l d = some x → dot d x.1 = true := by
  induction h with
  | nil => exact ⟨fun _ d x hx => (by cases hx), fun _ t ht => (by cases ht)⟩
  | cons h hs ih =>
    rename_i k t r
    constructor
    · intro H d x hx
      rw [get_cons] at hx
      by_cases e : t.d = d
      · rw [if_pos e] at hx; cases hx; rw [← e]; exact H t (List.mem_cons_self ..)
      · rw [if_neg e] at hx; exact ih.1 (fun u hu => H u (List.mem_cons_of_mem _ hu)) d x hx
    · intro H u hu
      cases hu with
      | head => exact H t.d (t.s, t.n) (by rw [get_cons, if_pos rfl])
      | tail _ hu =>
        refine ih.2 (fun d x hx => H d x ?_) u hu
        rw [get_cons, if_neg]
        · exact hx
        · intro e; rw [get_low hs (by omega)] at hx; cases hx

theorem chk_iff {l : List Tl} : chk l = true ↔ Sorted (-1) l ∧ ∀ d x, get l d = some x → dot d x.1 = true :=
  ⟨fun h => ⟨chkFrom_sorted h, (dot_get (chkFrom_sorted h)).1 (chkFrom_dot h)⟩, fun h => chkFrom_mk h.1 ((dot_get h.1).2 h.2)⟩

theorem dot_dev {d s : Int} (h : dot d s = true) : -1 < d := by simp [dot] at h; omega

/-- what Add returns: chk and dot hold, and the operation is new. -/
theorem add_chk {l y : List Tl} {d s n : Int} (hl : chk l = true) (hd : dot d s = true) (h : addL d s n l = some y) : chk y = true := by
  have h0 := chk_iff.1 hl
  rcases addL_spec (s := s) (n := n) h0.1 (dot_dev hd) with ⟨h1, _⟩ | ⟨z, h1, h2, h3, _⟩
  · rw [h1] at h; cases h
  · rw [h1] at h; cases h
    refine chk_iff.2 ⟨h2, fun d' x hx => ?_⟩
    rw [h3] at hx
    by_cases e : d' = d
    · subst e; rw [if_pos rfl] at hx
      split at hx <;> (cases hx; exact hd)
    · rw [if_neg e] at hx; exact h0.2 d' x hx

theorem join_chk {a b : List Tl} (ha : chk a = true) (hb : chk b = true) : chk (join a b) = true := by
  have h0 := chk_iff.1 ha
  have h1 := chk_iff.1 hb
  refine chk_iff.2 ⟨join_sorted b h0.1 h1.1.all, fun d x hx => ?_⟩
  rw [join_get h1.1 h0.1] at hx
  have e0 := h0.2 d
  have e1 := h1.2 d
  generalize get a d = p at *
  generalize get b d = q at *
  rcases p with _ | ⟨p1, p2⟩ <;> rcases q with _ | ⟨q1, q2⟩ <;> simp only [omx] at hx
  · cases hx
  · cases hx; exact e1 _ rfl
  · cases hx; exact e0 _ rfl
  · split at hx
    · cases hx; exact e1 _ rfl
    · cases hx; exact e0 _ rfl

theorem add_comm' {l x y : List Tl} {d s n d' s' n' : Int} (hl : chk l = true) (h1 : dot d s = true) (h2 : dot d' s' = true) (hne : d ≠ d')
    (hx : addL d s n l = some x) (hy : addL d' s' n' l = some y) : ∃ z, addL d' s' n' x = some z ∧ addL d s n y = some z := by
  have h0 := chk_iff.1 hl
  have cx := chk_iff.1 (add_chk hl h1 hx)
  have cy := chk_iff.1 (add_chk hl h2 hy)
  rcases addL_spec (s := s) (n := n) h0.1 (dot_dev h1) with ⟨e, _⟩ | ⟨x', ex, sx, gx, fx⟩
  · rw [e] at hx; cases hx
  rcases addL_spec (s := s') (n := n') h0.1 (dot_dev h2) with ⟨e, _⟩ | ⟨y', ey, sy, gy, fy⟩
  · rw [e] at hy; cases hy
  rw [ex] at hx; cases hx
  rw [ey] at hy; cases hy
  rcases addL_spec (s := s') (n := n') cx.1 (dot_dev h2) with ⟨_, u, gu, hu⟩ | ⟨z, ez, sz, gz, _⟩
  · rw [gx, if_neg (by omega)] at gu; have := fy _ gu; omega
  rcases addL_spec (s := s) (n := n) cy.1 (dot_dev h1) with ⟨_, u, gu, hu⟩ | ⟨z', ez', sz', gz', _⟩
  · rw [gy, if_neg (by omega)] at gu; have := fx _ gu; omega
  refine ⟨z, ez, ?_⟩
  rw [ez']
  congr 1
  refine ext sz' sz fun e => ?_
  have hxd : get x d' = get l d' := by rw [gx, if_neg (fun h => hne h.symm)]
  have hyd : get y d = get l d := by rw [gy, if_neg hne]
  rw [gz', gz, hxd, hyd, gx e, gy e]
  by_cases c1 : e = d
  · subst c1; rw [if_pos rfl, if_neg hne, if_pos rfl]
  · rw [if_neg c1]
    by_cases c2 : e = d'
    · rw [if_pos c2, if_pos c2]
    · rw [if_neg c2, if_neg c2, if_neg c1]

/-- the state after an operation, joined with the state before it. -/
theorem join_add {l x : List Tl} {d s n : Int} (hl : chk l = true) (h1 : dot d s = true) (hx : addL d s n l = some x) : join l x = x := by
  have h0 := chk_iff.1 hl
  have cx := chk_iff.1 (add_chk hl h1 hx)
  rcases addL_spec (s := s) (n := n) h0.1 (dot_dev h1) with ⟨e, _⟩ | ⟨x', ex, sx, gx, fx⟩
  · rw [e] at hx; cases hx
  rw [ex] at hx; cases hx
  refine ext (join_sorted x h0.1 sx.all) sx fun e => ?_
  rw [join_get sx h0.1, gx]
  by_cases c : e = d
  · subst c
    rw [if_pos rfl]
    cases hg : get l e with
    | none => simp only [none_omx]
    | some u => have := fx u hg; simp only [omx]; rw [if_pos (.inl this)]
  · rw [if_neg c, omx_self]

theorem join_comm {a b : List Tl} (ha : chk a = true) (hb : chk b = true) : join a b = join b a := by
  have h0 := (chk_iff.1 ha).1
  have h1 := (chk_iff.1 hb).1
  exact ext (join_sorted b h0 h1.all) (join_sorted a h1 h0.all) fun d => by rw [join_get h1 h0, join_get h0 h1, omx_comm]

theorem join_assoc {a b c : List Tl} (ha : chk a = true) (hb : chk b = true) (hc : chk c = true) : join (join a b) c = join a (join b c) := by
  have h0 := (chk_iff.1 ha).1
  have h1 := (chk_iff.1 hb).1
  have h2 := (chk_iff.1 hc).1
  have h01 := join_sorted b h0 h1.all
  have h12 := join_sorted c h1 h2.all
  exact ext (join_sorted c h01 h2.all) (join_sorted (join b c) h0 h12.all) fun d => by
    rw [join_get h2 h01, join_get h1 h0, join_get h12 h0, join_get h2 h1, omx_assoc]

theorem join_self {a : List Tl} (ha : chk a = true) : join a a = a := by
  have h0 := (chk_iff.1 ha).1
  exact ext (join_sorted a h0 h0.all) h0 fun d => by rw [join_get h0 h0, omx_self]

theorem join_absorb {a b : List Tl} (ha : chk a = true) (hb : chk b = true) : join (join a b) b = join a b := by
  rw [join_assoc ha hb hb, join_self hb]

/-! ### adding a list of numbers -/
/-- added: numbers added by the next operations of a device. -/
def addAll (d : Int) : Int → List Int → List Tl → Option (List Tl)
  | _, [], l => some l
  | s, n :: r, l => if dot d s then (addL d s n l).bind (addAll d (s + 1) r) else none

theorem addAll_chk {d : Int} (ns : List Int) : ∀ {s : Int} {l x : List Tl}, chk l = true → addAll d s ns l = some x → chk x = true := by
  induction ns with
  | nil => intro s l x hl h; cases h; exact hl
  | cons n r ih =>
    intro s l x hl h
    simp only [addAll] at h
    split at h
    · rename_i hd
      cases h1 : addL d s n l with
      | none => rw [h1] at h; cases h
      | some y => rw [h1] at h; exact ih (add_chk hl hd h1) h
    · cases h

/-- the other devices' tallies stay; the device's own: 'f' of what was there (none: no number was added). -/
theorem addAll_get {d : Int} (ns : List Int) : ∀ {s : Int} {l x : List Tl}, chk l = true → (∀ u, get l d = some u → u.1 < s) → addAll d s ns l = some x →
    (∀ e, e ≠ d → get x e = get l e) ∧ (omx (get l d) (get x d) = get x d) := by
  induction ns with
  | nil => intro s l x hl _ h; cases h; exact ⟨fun _ _ => rfl, omx_self _⟩
  | cons n r ih =>
    intro s l x hl hs h
    simp only [addAll] at h
    split at h
    · rename_i hd
      cases h1 : addL d s n l with
      | none => rw [h1] at h; cases h
      | some y =>
        rw [h1] at h
        rcases addL_spec (s := s) (n := n) (chk_iff.1 hl).1 (dot_dev hd) with ⟨e, _⟩ | ⟨y', ey, sy, gy, fy⟩
        · rw [e] at h1; cases h1
        rw [ey] at h1; cases h1
        have hyy : ∃ m, get y d = some (s, m) := by
          rw [gy, if_pos rfl]; split <;> exact ⟨_, rfl⟩
        obtain ⟨m, hm⟩ := hyy
        obtain ⟨k1, k2⟩ := ih (add_chk hl hd ey) (fun u hu => by rw [hm] at hu; cases hu; show s < s + 1; omega) h
        refine ⟨fun e he => by rw [k1 e he, gy, if_neg he], ?_⟩
        have k3 : omx (get l d) (get y d) = get y d := by
          rw [hm]
          cases hg : get l d with
          | none => rw [none_omx]
          | some u => have := fy u hg; simp only [omx]; rw [if_pos (.inl this)]
        rw [← k2, ← omx_assoc, k3]
    · cases h

/-- what is added to a state of which only the other devices' tallies have changed comes to the same tally of the device. -/
theorem addAll_same {d : Int} (ns : List Int) : ∀ {s : Int} {l l' x : List Tl}, chk l = true → chk l' = true → get l' d = get l d → addAll d s ns l = some x →
    ∃ x', addAll d s ns l' = some x' ∧ get x' d = get x d ∧ ∀ e, e ≠ d → get x' e = get l' e := by
  induction ns with
  | nil => intro s l l' x _ _ hg h; cases h; exact ⟨l', rfl, hg, fun _ _ => rfl⟩
  | cons n r ih =>
    intro s l l' x hl hl' hg h
    simp only [addAll] at h ⊢
    split at h
    · rename_i hd
      rw [if_pos hd]
      cases h1 : addL d s n l with
      | none => rw [h1] at h; cases h
      | some y =>
        rw [h1] at h
        rcases addL_spec (s := s) (n := n) (chk_iff.1 hl).1 (dot_dev hd) with ⟨e, _⟩ | ⟨y1, ey, sy, gy, fy⟩
        · rw [e] at h1; cases h1
        rw [ey] at h1; cases h1
        rcases addL_spec (s := s) (n := n) (chk_iff.1 hl').1 (dot_dev hd) with ⟨_, u, hu, hs⟩ | ⟨y2, ey2, sy2, gy2, fy2⟩
        · rw [hg] at hu; have := fy u hu; omega
        obtain ⟨x', q1, q2, q3⟩ := ih (add_chk hl hd ey) (add_chk hl' hd ey2) (by rw [gy2, gy, if_pos rfl, if_pos rfl, hg]) h
        exact ⟨x', by rw [ey2]; exact q1, q2, fun e he => by rw [q3 e he, gy2, if_neg he]⟩
    · cases h

/-- what two devices have added apart is joined to all of it. -/
theorem parted {m n s t : Int} {a b : List Int} {l x y : List Tl} (hl : chk l = true) (hne : m ≠ n) (hs : ∀ u, get l m = some u → u.1 < s) (ht : ∀ u, get l n = some u → u.1 < t)
    (hx : addAll m s a l = some x) (hy : addAll n t b l = some y) : ∃ z, addAll n t b x = some z ∧ join x y = z := by
  have cx := addAll_chk a hl hx
  have cy := addAll_chk b hl hy
  obtain ⟨gx, ox⟩ := addAll_get a hl hs hx
  obtain ⟨gy, oy⟩ := addAll_get b hl ht hy
  obtain ⟨z, hz, zn, ze⟩ := addAll_same b hl cx (gx n (fun h => hne h.symm)) hy
  have cz := addAll_chk b cx hz
  refine ⟨z, hz, ext (join_sorted y (chk_iff.1 cx).1 (chk_iff.1 cy).1.all) (chk_iff.1 cz).1 fun e => ?_⟩
  rw [join_get (chk_iff.1 cy).1 (chk_iff.1 cx).1]
  by_cases c1 : e = n
  · subst c1; rw [zn, gx e (fun h => hne h.symm), oy]
  · rw [ze e c1, gy e c1]
    by_cases c2 : e = m
    · subst c2; rw [omx_comm, ox]
    · rw [gx e c2, omx_self]

/-! ### what the functions hand back -/
def WF (l : List Tl) : Prop := ∀ t ∈ l, (-9223372036854775808 ≤ t.d ∧ t.d ≤ 9223372036854775807) ∧ (-9223372036854775808 ≤ t.s ∧ t.s ≤ 9223372036854775807) ∧ (-9223372036854775808 ≤ t.n ∧ t.n ≤ 9223372036854775807)

def addSpec (l : List Tl) (d s n : Int) : List Tl × Int :=
  if chk l then (if dot d s then (match addL d s n l with | none => ([], 182) | some y => (y, 0)) else ([], 150)) else ([], 150)
def joinSpec (a b : List Tl) : List Tl × Int := if chk a then (if chk b then (join a b, 0) else ([], 150)) else ([], 150)
def valueSpec (l : List Tl) : Int × Int := if chk l then (value l, 0) else (0, 150)

theorem addL_new {l : List Tl} {d s n : Int} {b : Int} (h : Sorted b l) (hh : has d l = false) : addL d s n l = some (l.take (pos d l) ++ [⟨d, s, n⟩] ++ l.drop (pos d l)) := by
  induction h with
  | nil => rfl
  | cons h hs ih =>
    rename_i b t r
    simp only [addL, pos, has, get_cons] at hh ih ⊢
    by_cases c1 : t.d < d
    · rw [if_neg (by omega)] at hh
      rw [if_pos c1, if_pos c1, ih hh]; rfl
    · rw [if_neg c1, if_neg c1]
      by_cases c2 : t.d = d
      · rw [if_pos c2] at hh; cases hh
      · rw [if_neg c2]; rfl

theorem addL_there {l : List Tl} {d s n : Int} {b : Int} (h : Sorted b l) (hh : has d l = true) : ∃ t, l[pos d l]? = some t ∧ t.d = d ∧
    addL d s n l = if s ≤ t.s then none else some (l.take (pos d l) ++ [⟨t.d, s, wrap64 (t.n + n)⟩] ++ l.drop (pos d l + 1)) := by
  induction h with
  | nil => cases hh
  | cons h hs ih =>
    rename_i b t r
    simp only [addL, pos, has, get_cons] at hh ih ⊢
    by_cases c1 : t.d < d
    · rw [if_neg (by omega)] at hh
      obtain ⟨u, h1, h2, h3⟩ := ih hh
      rw [if_pos c1, if_pos c1, h3]
      refine ⟨u, by simpa using h1, h2, ?_⟩
      split <;> rfl
    · rw [if_neg c1, if_neg c1]
      by_cases c2 : t.d = d
      · rw [if_pos c2]
        refine ⟨t, rfl, c2, ?_⟩
        rw [c2]; rfl
      · rw [if_neg c2, get_low hs (by omega)] at hh; cases hh

theorem pos_lt_of_has {l : List Tl} {d b : Int} (h : Sorted b l) (hh : has d l = true) : pos d l < l.length := by
  rw [has_pos h] at hh
  split at hh
  · rename_i e; exact (List.getElem?_eq_some_iff.1 e).1
  · cases hh

theorem WF.take {l : List Tl} (h : WF l) (k : Nat) : WF (l.take k) := fun t ht => h t (List.mem_of_mem_take ht)
theorem WF.drop {l : List Tl} (h : WF l) (k : Nat) : WF (l.drop k) := fun t ht => h t (List.mem_of_mem_drop ht)
theorem WF.append {a b : List Tl} (h : WF a) (h' : WF b) : WF (a ++ b) := fun t ht => by rcases List.mem_append.1 ht with h1 | h1; exact h t h1; exact h' t h1
theorem WF.one {t : Tl} (h : (-9223372036854775808 ≤ t.d ∧ t.d ≤ 9223372036854775807) ∧ (-9223372036854775808 ≤ t.s ∧ t.s ≤ 9223372036854775807) ∧ (-9223372036854775808 ≤ t.n ∧ t.n ≤ 9223372036854775807)) : WF [t] := fun u hu => by
  cases hu with
  | head => exact h
  | tail _ hu => cases hu
theorem WF.nil : WF [] := fun t ht => by cases ht

end Tally
