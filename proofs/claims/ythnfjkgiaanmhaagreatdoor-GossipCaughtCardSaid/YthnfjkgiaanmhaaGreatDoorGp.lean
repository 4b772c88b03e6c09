/- the watches, plainly: what the functions of chapter 36 compute, and what its laws say of them; no program but the words for signatures -/
import Derived.Test.YthnfjkgiaanmhaaGreatDoorDrP
namespace Go.Dr

structure Wt where
  pub : Int
  rs : List Rt
def zeroW : Wt := ⟨0, []⟩
def zeroS : Rt × Rt := (zeroR, zeroR)
def properB (b pub : Int) (r : Rt) : Bool := signedB b pub r && (decide (1 < r.no) || decide (r.prev = zd))
def contraB (a c : Rt) : Bool := if a.no = c.no then !eqR a c else decide (a.no = c.no - 1) && !decide (c.prev = idR a)
def stepOk (p : Option Rt) (r : Rt) : Bool := match p with | none => true | some q => decide (q.no < r.no) && !contraB q r
def wchkGo (b pub : Int) : Option Rt → List Rt → Bool
  | _, [] => true
  | p, r :: t => properB b pub r && stepOk p r && wchkGo b pub (some r) t
def wchk (b : Int) (w : Wt) : Bool := wchkGo b w.pub none w.rs
def posR (k : Int) (l : List Rt) : Nat := l.findIdx (fun y => decide (k ≤ y.no))
def metR (k : Int) (l : List Rt) : Bool := match l[posR k l]? with | some y => decide (y.no = k) | none => false
def conflN (nx : Option Rt) (r : Rt) : (Rt × Rt) × Bool := match nx with | some y => if contraB r y then ((r, y), true) else (zeroS, false) | none => (zeroS, false)
def conflP (pv nx : Option Rt) (r : Rt) : (Rt × Rt) × Bool := match pv with | some q => if contraB q r then ((q, r), true) else conflN nx r | none => conflN nx r
def conflM (pv nx : Option Rt) (r : Rt) : (Rt × Rt) × Bool := match nx with | some y => if y.no = r.no then ((y, r), contraB y r) else conflP pv (some y) r | none => conflP pv none r
def confl (l : List Rt) (r : Rt) : (Rt × Rt) × Bool := conflM ((l.take (posR r.no l)).getLast?) (l[posR r.no l]?) r
def insR (r : Rt) (l : List Rt) : List Rt := l.take (posR r.no l) ++ r :: l.drop (posR r.no l)
def accW (b : Int) (w : Wt) (r : Rt) : Wt × (Rt × Rt) × Int :=
  if wchk b w then (if properB b w.pub r then (if (confl w.rs r).2 then (w, (confl w.rs r).1, 361) else (if metR r.no w.rs then w else ⟨w.pub, insR r w.rs⟩, zeroS, 0)) else (zeroW, zeroS, 360)) else (zeroW, zeroS, 360)
def cmpGo (l : List Rt) : List Rt → (Rt × Rt) × Bool
  | [] => (zeroS, false)
  | r :: t => if (confl l r).2 then ((confl l r).1, true) else cmpGo l t
def cmpW (b : Int) (v w : Wt) : (Rt × Rt) × Bool := if wchk b v && wchk b w && decide (v.pub = w.pub) then cmpGo v.rs w.rs else (zeroS, false)
def proveB (b pub : Int) (s : Rt × Rt) : Bool := properB b pub s.1 && properB b pub s.2 && contraB s.1 s.2
def proveS (b pub : Int) (s : Rt × Rt) : Int := if proveB b pub s then 0 else 361

theorem proper_no {b pub : Int} {r : Rt} (h : properB b pub r = true) : 1 ≤ r.no ∧ r.no ≤ 65536 := by
  unfold properB signedB at h
  simp only [Bool.and_eq_true, decide_eq_true_iff] at h
  exact h.1.1
theorem contra_self (a : Rt) : contraB a a = false := by unfold contraB; rw [if_pos rfl, eqR_refl]; rfl
theorem contra_same {a c : Rt} (h : a.no = c.no) : contraB a c = true ↔ a ≠ c := by
  unfold contraB
  rw [if_pos h, Bool.not_eq_true']
  constructor
  · rintro h1 rfl; rw [eqR_refl] at h1; cases h1
  · exact eqR_ne
theorem contra_next {a c : Rt} (h : a.no = c.no - 1) : contraB a c = true ↔ c.prev ≠ idR a := by
  unfold contraB
  rw [if_neg (by omega), decide_eq_true h]
  simp
theorem contra_no {a c : Rt} (h : contraB a c = true) : a.no = c.no ∨ a.no = c.no - 1 := by
  unfold contraB at h
  split at h
  · rename_i e; exact .inl e
  · rw [Bool.and_eq_true, decide_eq_true_iff] at h; exact .inr h.1
/-- no two contradict each other. -/
def Free (l : List Rt) : Prop := ∀ x ∈ l, ∀ y ∈ l, contraB x y = false
structure WOk (b : Int) (w : Wt) : Prop where
  pr : ∀ x ∈ w.rs, properB b w.pub x = true
  up : w.rs.Pairwise (fun a c => a.no < c.no)
  free : Free w.rs
theorem wchkGo_iff (b pub : Int) : ∀ (l : List Rt) (p : Option Rt), wchkGo b pub p l = true ↔ (∀ x ∈ l, properB b pub x = true) ∧ l.Pairwise (fun a c => a.no < c.no) ∧ (∀ x ∈ l, ∀ y ∈ l, contraB x y = false) ∧ ∀ q, p = some q → ∀ x ∈ l, q.no < x.no ∧ contraB q x = false
  | [], p => by simp [wchkGo]
  | r :: t, p => by
    have ih := wchkGo_iff b pub t (some r)
    rw [wchkGo, Bool.and_eq_true, Bool.and_eq_true, ih]
    constructor
    · rintro ⟨⟨h1, h2⟩, h3, h4, h5, h6⟩
      have h6' := h6 r rfl
      have h7 : ∀ x ∈ t, contraB x r = false := fun x hx => by
        cases e : contraB x r with
        | false => rfl
        | true => have := contra_no e; have := (h6' x hx).1; omega
      refine ⟨?_, List.pairwise_cons.2 ⟨fun x hx => (h6' x hx).1, h4⟩, ?_, ?_⟩
      · intro x hx
        rcases List.mem_cons.1 hx with rfl | hx
        · exact h1
        · exact h3 x hx
      · intro x hx y hy
        rcases List.mem_cons.1 hx with ex | hx' <;> rcases List.mem_cons.1 hy with ey | hy'
        · rw [ex, ey]; exact contra_self _
        · rw [ex]; exact (h6' y hy').2
        · rw [ey]; exact h7 x hx'
        · exact h5 x hx' y hy'
      · rintro q rfl x hx
        simp only [stepOk, Bool.and_eq_true, decide_eq_true_iff, Bool.not_eq_true'] at h2
        rcases List.mem_cons.1 hx with rfl | hx
        · exact h2
        · have hrx := (h6' x hx).1
          refine ⟨by omega, ?_⟩
          cases e : contraB q x with
          | false => rfl
          | true => have := contra_no e; omega
    · rintro ⟨h1, h2, h3, h4⟩
      rw [List.pairwise_cons] at h2
      refine ⟨⟨h1 r (by simp), ?_⟩, fun x hx => h1 x (by simp [hx]), h2.2, fun x hx y hy => h3 x (by simp [hx]) y (by simp [hy]), ?_⟩
      · cases p with
        | none => rfl
        | some q =>
          have := h4 q rfl r (by simp)
          simp only [stepOk, Bool.and_eq_true, decide_eq_true_iff, Bool.not_eq_true']
          exact this
      · rintro q hq x hx
        cases hq
        exact ⟨h2.1 x hx, h3 r (by simp) x (by simp [hx])⟩
theorem wchk_iff {b : Int} {w : Wt} : wchk b w = true ↔ WOk b w := by
  unfold wchk
  rw [wchkGo_iff]
  exact ⟨fun h => ⟨h.1, h.2.1, h.2.2.1⟩, fun h => ⟨h.pr, h.up, h.free, fun _ e => by cases e⟩⟩

/-! ### where a number belongs -/
theorem posR_le (k : Int) (l : List Rt) : posR k l ≤ l.length := List.findIdx_le_length
theorem posR_eq {k : Int} {l : List Rt} {i : Nat} (hi : i ≤ l.length) (hlo : ∀ p t, p < i → l[p]? = some t → t.no < k) (hhi : ∀ t, l[i]? = some t → k ≤ t.no) : posR k l = i := by
  unfold posR
  by_cases h : i < l.length
  · rw [List.findIdx_eq h]
    refine ⟨by simpa using hhi _ (List.getElem?_eq_getElem h), fun j hj => ?_⟩
    have := hlo j l[j] hj (List.getElem?_eq_getElem (by omega))
    simpa using this
  · rw [show i = l.length by omega]
    refine List.findIdx_eq_length.2 fun x hx => ?_
    obtain ⟨j, hj⟩ := List.mem_iff_getElem?.1 hx
    have := hlo j x (by have := (List.getElem?_eq_some_iff.1 hj).1; omega) hj
    simpa using this
theorem posR_lo {k : Int} {l : List Rt} {p : Nat} {t : Rt} (hp : p < posR k l) (h : l[p]? = some t) : t.no < k := by
  have h1 := List.not_of_lt_findIdx (p := fun y : Rt => decide (k ≤ y.no)) (xs := l) (i := p) hp
  rw [show l[p]'(List.getElem?_eq_some_iff.1 h).1 = t from (List.getElem?_eq_some_iff.1 h).2] at h1
  simpa using h1
theorem posR_hi {k : Int} {l : List Rt} {t : Rt} (h : l[posR k l]? = some t) : k ≤ t.no := by
  have hi := (List.getElem?_eq_some_iff.1 h).1
  have h1 := List.findIdx_getElem (p := fun y : Rt => decide (k ≤ y.no)) (xs := l) (w := hi)
  have e : l[l.findIdx fun y : Rt => decide (k ≤ y.no)]'hi = t := (List.getElem?_eq_some_iff.1 h).2
  rw [e] at h1
  simpa using h1
theorem up_lt {l : List Rt} (hp : l.Pairwise (fun a c => a.no < c.no)) {i j : Nat} {x y : Rt} (hij : i < j) (hx : l[i]? = some x) (hy : l[j]? = some y) : x.no < y.no := by
  obtain ⟨h1, rfl⟩ := List.getElem?_eq_some_iff.1 hx
  obtain ⟨h2, rfl⟩ := List.getElem?_eq_some_iff.1 hy
  exact List.pairwise_iff_getElem.1 hp i j h1 h2 hij
theorem mem_lo {k : Int} {l : List Rt} {x : Rt} (hp : l.Pairwise (fun a c => a.no < c.no)) {i : Nat} (hx : l[i]? = some x) (hk : x.no < k) : i < posR k l := by
  have hi := (List.getElem?_eq_some_iff.1 hx).1
  refine Nat.lt_of_not_le fun h => ?_
  cases e : l[posR k l]? with
  | none => rw [List.getElem?_eq_none_iff] at e; omega
  | some t =>
    have h1 := posR_hi e
    rcases Nat.lt_or_eq_of_le h with h2 | h2
    · have := up_lt hp h2 e hx; omega
    · rw [h2] at e; rw [e] at hx; cases hx; omega
/-- a member with the number stands at its place. -/
theorem at_same {k : Int} {l : List Rt} {x : Rt} (hp : l.Pairwise (fun a c => a.no < c.no)) (hx : x ∈ l) (hk : x.no = k) : l[posR k l]? = some x := by
  obtain ⟨i, hi⟩ := List.mem_iff_getElem?.1 hx
  have hil := (List.getElem?_eq_some_iff.1 hi).1
  rw [posR_eq (i := i) (by omega) (fun p t hpi ht => by have := up_lt hp hpi ht hi; omega) (fun t ht => by rw [hi] at ht; cases ht; omega)]
  exact hi
/-- a member with the number before, where the number is not met, stands ahead of its place. -/
theorem at_before {k : Int} {l : List Rt} {x : Rt} (hp : l.Pairwise (fun a c => a.no < c.no)) (hx : x ∈ l) (hk : x.no = k - 1) : (l.take (posR k l)).getLast? = some x := by
  obtain ⟨i, hi⟩ := List.mem_iff_getElem?.1 hx
  have hil := (List.getElem?_eq_some_iff.1 hi).1
  have e : posR k l = i + 1 := posR_eq (by omega) (fun p t hpi ht => by
    rcases Nat.lt_or_eq_of_le (Nat.le_of_lt_succ hpi) with h | h
    · have := up_lt hp h ht hi; omega
    · subst h; rw [hi] at ht; cases ht; omega) (fun t ht => by have := up_lt hp (Nat.lt_succ_self i) hi ht; omega)
  rw [e, List.take_add_one, hi, Option.toList_some, List.getLast?_concat]
/-- a member with the number behind, where the number is not met, stands at its place. -/
theorem at_behind {k : Int} {l : List Rt} {x : Rt} (hp : l.Pairwise (fun a c => a.no < c.no)) (hx : x ∈ l) (hk : k = x.no - 1) (hn : ∀ y ∈ l, y.no ≠ k) : l[posR k l]? = some x := by
  obtain ⟨i, hi⟩ := List.mem_iff_getElem?.1 hx
  have hil := (List.getElem?_eq_some_iff.1 hi).1
  rw [posR_eq (i := i) (by omega) (fun p t hpi ht => by
    have := up_lt hp hpi ht hi
    have := hn t (List.mem_of_getElem? ht)
    omega) (fun t ht => by rw [hi] at ht; cases ht; omega)]
  exact hi
theorem metR_iff {k : Int} {l : List Rt} (hp : l.Pairwise (fun a c => a.no < c.no)) : metR k l = true ↔ ∃ x ∈ l, x.no = k := by
  unfold metR
  constructor
  · intro h
    cases e : l[posR k l]? with
    | none => rw [e] at h; cases h
    | some y => rw [e] at h; exact ⟨y, List.mem_of_getElem? e, by simpa using h⟩
  · rintro ⟨x, hx, hk⟩
    rw [at_same hp hx hk]
    simpa using hk

/-! ### contradictions -/
/-- what is returned is a contradiction, of a member and the root. -/
theorem confl_t {l : List Rt} {r : Rt} (h : (confl l r).2 = true) : ∃ x ∈ l, ((confl l r).1 = (x, r) ∧ contraB x r = true) ∨ ((confl l r).1 = (r, x) ∧ contraB r x = true) := by
  unfold confl at *
  cases e : l[posR r.no l]? with
  | none =>
    rw [e] at h
    simp only [conflM, conflP] at h ⊢
    cases e2 : (l.take (posR r.no l)).getLast? with
    | none => rw [e2] at h; cases h
    | some q =>
      rw [e2] at h
      have hq : q ∈ l := List.mem_of_mem_take (List.mem_of_getLast? e2)
      cases hc : contraB q r with
      | true => exact ⟨q, hq, .inl ⟨by simp [hc], hc⟩⟩
      | false => simp [hc, conflN] at h
  | some y =>
    rw [e] at h
    have hy : y ∈ l := List.mem_of_getElem? e
    simp only [conflM] at h ⊢
    split at h
    · rename_i hn
      exact ⟨y, hy, .inl ⟨by rw [if_pos hn], h⟩⟩
    · rename_i hn
      rw [if_neg hn]
      simp only [conflP] at h ⊢
      cases e2 : (l.take (posR r.no l)).getLast? with
      | none =>
        rw [e2] at h
        simp only [conflN] at h ⊢
        cases hc : contraB r y with
        | true => exact ⟨y, hy, .inr ⟨by simp, hc⟩⟩
        | false => simp [hc] at h
      | some q =>
        rw [e2] at h
        have hq : q ∈ l := List.mem_of_mem_take (List.mem_of_getLast? e2)
        simp only at h ⊢
        cases hc : contraB q r with
        | true => exact ⟨q, hq, .inl ⟨by simp, hc⟩⟩
        | false =>
          simp only [hc, Bool.false_eq_true, if_false, conflN] at h ⊢
          cases hc2 : contraB r y with
          | true => exact ⟨y, hy, .inr ⟨by simp, hc2⟩⟩
          | false => simp [hc2] at h
/-- a contradiction of a member and a root is found. -/
theorem confl_of {l : List Rt} {r x : Rt} (hp : l.Pairwise (fun a c => a.no < c.no)) (hf : Free l) (hx : x ∈ l) (h : contraB x r = true ∨ contraB r x = true) : (confl l r).2 = true := by
  by_cases hm : ∃ y ∈ l, y.no = r.no
  · obtain ⟨y, hy, hk⟩ := hm
    unfold confl
    rw [at_same hp hy hk]
    simp only [conflM]
    rw [if_pos hk]
    show contraB y r = true
    rw [contra_same hk]
    rintro rfl
    rcases h with h | h
    · rw [hf x hx y hy] at h; cases h
    · rw [hf y hy x hx] at h; cases h
  · have hn : ∀ y ∈ l, y.no ≠ r.no := fun y hy e => hm ⟨y, hy, e⟩
    have hN : ∀ nx, (conflM ((l.take (posR r.no l)).getLast?) nx r).2 = (conflP ((l.take (posR r.no l)).getLast?) nx r).2 ∨ ∃ y, nx = some y ∧ y.no = r.no := fun nx => by
      cases nx with
      | none => exact .inl rfl
      | some y =>
        by_cases e : y.no = r.no
        · exact .inr ⟨y, rfl, e⟩
        · exact .inl (by simp only [conflM]; rw [if_neg e])
    have hM : (confl l r).2 = (conflP ((l.take (posR r.no l)).getLast?) (l[posR r.no l]?) r).2 := by
      unfold confl
      rcases hN (l[posR r.no l]?) with e | ⟨y, e1, e2⟩
      · exact e
      · exact absurd e2 (hn y (List.mem_of_getElem? e1))
    rw [hM]
    rcases h with h | h
    · rcases contra_no h with e | e
      · exact absurd e (hn x hx)
      · rw [at_before hp hx e]
        simp only [conflP]
        rw [if_pos h]
    · rcases contra_no h with e | e
      · exact absurd e.symm (hn x hx)
      · rw [at_behind hp hx e hn]
        simp only [conflP]
        cases (l.take (posR r.no l)).getLast? with
        | none => simp only [conflN]; rw [if_pos h]
        | some q =>
          simp only [conflN]
          split
          · rfl
          · first | rfl | rw [if_pos h]
theorem confl_iff {l : List Rt} {r : Rt} (hp : l.Pairwise (fun a c => a.no < c.no)) (hf : Free l) : (confl l r).2 = true ↔ ∃ x ∈ l, contraB x r = true ∨ contraB r x = true := by
  constructor
  · intro h
    obtain ⟨x, hx, h⟩ := confl_t h
    exact ⟨x, hx, h.imp And.right And.right⟩
  · rintro ⟨x, hx, h⟩
    exact confl_of hp hf hx h
theorem confl_none {l : List Rt} {r : Rt} (h : ∀ x ∈ l, contraB x r = false ∧ contraB r x = false) : (confl l r).2 = false := by
  cases e : (confl l r).2 with
  | false => rfl
  | true =>
    obtain ⟨x, hx, h1⟩ := confl_t e
    have := h x hx
    rcases h1 with h1 | h1
    · rw [this.1] at h1; cases h1.2
    · rw [this.2] at h1; cases h1.2
theorem prove_mk {b pub : Int} {s : Rt × Rt} (h1 : properB b pub s.1 = true) (h2 : properB b pub s.2 = true) (h3 : contraB s.1 s.2 = true) : proveS b pub s = 0 := by
  unfold proveS proveB; rw [h1, h2, h3]; rfl
theorem confl_prove {b pub : Int} {l : List Rt} {r : Rt} (hl : ∀ x ∈ l, properB b pub x = true) (hr : properB b pub r = true) (h : (confl l r).2 = true) : proveS b pub (confl l r).1 = 0 := by
  obtain ⟨x, hx, h | h⟩ := confl_t h
  · rw [h.1]; exact prove_mk (hl x hx) hr h.2
  · rw [h.1]; exact prove_mk hr (hl x hx) h.2

/-! ### accepting -/
theorem insR_mem {r x : Rt} {l : List Rt} : x ∈ insR r l ↔ x = r ∨ x ∈ l := by
  unfold insR
  rw [List.mem_append, List.mem_cons]
  conv => rhs; rw [← List.take_append_drop (posR r.no l) l, List.mem_append]
  constructor
  · rintro (h | h | h) <;> simp_all
  · rintro (h | h | h) <;> simp_all
theorem insR_length (r : Rt) (l : List Rt) : (insR r l).length = l.length + 1 := by
  have := posR_le r.no l
  unfold insR
  simp only [List.length_append, List.length_take, List.length_cons, List.length_drop]
  omega
theorem insR_up {r : Rt} {l : List Rt} (hp : l.Pairwise (fun a c => a.no < c.no)) (hn : ∀ y ∈ l, y.no ≠ r.no) : (insR r l).Pairwise (fun a c => a.no < c.no) := by
  have hlo : ∀ x ∈ l.take (posR r.no l), x.no < r.no := fun x hx => by
    obtain ⟨j, hj⟩ := List.mem_iff_getElem?.1 hx
    have hjl := (List.getElem?_eq_some_iff.1 hj).1
    rw [List.length_take] at hjl
    rw [List.getElem?_take_of_lt (by omega)] at hj
    exact posR_lo (by omega) hj
  have hhi : ∀ x ∈ l.drop (posR r.no l), r.no < x.no := fun x hx => by
    obtain ⟨j, hj⟩ := List.mem_iff_getElem?.1 hx
    rw [List.getElem?_drop] at hj
    have hne := hn x (List.mem_of_getElem? hj)
    cases j with
    | zero => have := posR_hi hj; omega
    | succ j =>
      cases e : l[posR r.no l]? with
      | none => have := (List.getElem?_eq_some_iff.1 hj).1; rw [List.getElem?_eq_none_iff] at e; omega
      | some t => have := posR_hi e; have := up_lt hp (by omega) e hj; omega
  unfold insR
  rw [List.pairwise_append]
  refine ⟨hp.sublist (List.take_sublist _ _), List.pairwise_cons.2 ⟨hhi, hp.sublist (List.drop_sublist _ _)⟩, fun x hx y hy => ?_⟩
  rcases List.mem_cons.1 hy with rfl | hy
  · exact hlo x hx
  · have := hlo x hx; have := hhi y hy; omega
/-- Accept, where all is well. -/
theorem acc_mem {b : Int} {w : Wt} {r : Rt} (H : WOk b w) (hr : properB b w.pub r = true) (hc : (confl w.rs r).2 = false) :
    ∃ v, accW b w r = (v, zeroS, 0) ∧ WOk b v ∧ v.pub = w.pub ∧ (∀ x, x ∈ v.rs ↔ x = r ∨ x ∈ w.rs) ∧ w.rs.length ≤ v.rs.length ∧ v.rs.length ≤ w.rs.length + 1 := by
  have hfr : ∀ x ∈ w.rs, contraB x r = false ∧ contraB r x = false := fun x hx => by
    constructor
    · cases e : contraB x r with
      | false => rfl
      | true => rw [confl_of H.up H.free hx (.inl e)] at hc; cases hc
    · cases e : contraB r x with
      | false => rfl
      | true => rw [confl_of H.up H.free hx (.inr e)] at hc; cases hc
  unfold accW
  rw [if_pos (wchk_iff.2 H), if_pos hr, hc, if_neg (by simp)]
  by_cases hm : metR r.no w.rs = true
  · rw [if_pos hm]
    obtain ⟨x, hx, hk⟩ := (metR_iff H.up).1 hm
    have : x = r := Classical.byContradiction fun e => by
      have := (contra_same hk).2 e
      rw [(hfr x hx).1] at this
      cases this
    subst this
    refine ⟨w, rfl, H, rfl, fun y => ⟨.inr, ?_⟩, Nat.le_refl _, Nat.le_succ _⟩
    rintro (rfl | h)
    · exact hx
    · exact h
  · rw [if_neg hm]
    have hn : ∀ y ∈ w.rs, y.no ≠ r.no := fun y hy e => hm ((metR_iff H.up).2 ⟨y, hy, e⟩)
    refine ⟨_, rfl, ⟨fun x hx => ?_, insR_up H.up hn, fun x hx y hy => ?_⟩, rfl, fun x => insR_mem, by rw [insR_length]; omega, by rw [insR_length]; omega⟩
    · rcases insR_mem.1 hx with rfl | hx
      · exact hr
      · exact H.pr x hx
    · rcases insR_mem.1 hx with ex | hx' <;> rcases insR_mem.1 hy with ey | hy'
      · rw [ex, ey]; exact contra_self _
      · rw [ex]; exact (hfr y hy').2
      · rw [ey]; exact (hfr x hx').1
      · exact H.free x hx' y hy'
theorem acc_new (b pub : Int) : WOk b ⟨pub, []⟩ := ⟨by simp, List.Pairwise.nil, by intro x hx; cases hx⟩
/-- what Accept can answer. -/
theorem acc_cases (b : Int) (w : Wt) (r : Rt) : (accW b w r = (zeroW, zeroS, 360) ∧ (wchk b w = false ∨ properB b w.pub r = false)) ∨ (WOk b w ∧ properB b w.pub r = true ∧ (confl w.rs r).2 = true ∧ accW b w r = (w, (confl w.rs r).1, 361)) ∨ (WOk b w ∧ properB b w.pub r = true ∧ (confl w.rs r).2 = false ∧ (accW b w r).2 = (zeroS, 0)) := by
  unfold accW
  by_cases h1 : wchk b w = true
  · rw [if_pos h1]
    by_cases h2 : properB b w.pub r = true
    · rw [if_pos h2]
      cases h3 : (confl w.rs r).2 with
      | true => exact .inr (.inl ⟨wchk_iff.1 h1, h2, rfl, by simp⟩)
      | false => exact .inr (.inr ⟨wchk_iff.1 h1, h2, rfl, by simp⟩)
    · rw [if_neg h2]; exact .inl ⟨rfl, .inr (by simpa using h2)⟩
  · rw [if_neg h1]; exact .inl ⟨rfl, .inl (by simpa using h1)⟩
/-- the law GossipRemember. -/
theorem acc_ok {b : Int} {w : Wt} {r : Rt} (h : (accW b w r).2.2 = 0) : WOk b (accW b w r).1 ∧ accW b (accW b w r).1 r = ((accW b w r).1, zeroS, 0) ∧ r ∈ (accW b w r).1.rs ∧ (∀ x ∈ w.rs, x ∈ (accW b w r).1.rs) ∧ (accW b w r).1.rs.length ≤ w.rs.length + 1 ∧ (accW b w r).1.pub = w.pub ∧ ∀ x ∈ (accW b w r).1.rs, x = r ∨ x ∈ w.rs := by
  rcases acc_cases b w r with ⟨e, _⟩ | ⟨_, _, _, e⟩ | ⟨H, hr, hc, e⟩
  · rw [e] at h; simp at h
  · rw [e] at h; simp at h
  · obtain ⟨v, hv, hV, hp, hm, hl0, hl⟩ := acc_mem H hr hc
    rw [hv]
    have hrv : r ∈ v.rs := (hm r).2 (.inl rfl)
    refine ⟨hV, ?_, hrv, fun x hx => (hm x).2 (.inr hx), hl, hp, fun x hx => (hm x).1 hx⟩
    show accW b v r = (v, zeroS, 0)
    unfold accW
    rw [if_pos (wchk_iff.2 hV), hp, if_pos hr, confl_none (fun x hx => ⟨hV.free x hx r hrv, hV.free r hrv x hx⟩), if_neg (by simp), if_pos ((metR_iff hV.up).2 ⟨r, hrv, rfl⟩)]
/-- the law GossipProofs, of Accept. -/
theorem acc_proofs {b : Int} {w : Wt} {r : Rt} : ((accW b w r).2.2 = 361 → proveS b w.pub (accW b w r).2.1 = 0 ∧ (accW b w r).1 = w) ∧ ((accW b w r).2.2 ≠ 361 → (accW b w r).2.1 = zeroS) := by
  rcases acc_cases b w r with ⟨e, _⟩ | ⟨H, hr, hc, e⟩ | ⟨H, hr, hc, e⟩
  · rw [e]; exact ⟨fun h => by simp at h, fun _ => rfl⟩
  · rw [e]; exact ⟨fun _ => ⟨confl_prove H.pr hr hc, rfl⟩, fun h => absurd rfl h⟩
  · rw [e]; exact ⟨fun h => by simp at h, fun _ => rfl⟩
theorem cmpGo_t {l : List Rt} : ∀ {m : List Rt}, (cmpGo l m).2 = true → ∃ r ∈ m, (confl l r).2 = true ∧ (cmpGo l m).1 = (confl l r).1
  | [], h => by simp [cmpGo] at h
  | r :: t, h => by
    unfold cmpGo at h ⊢
    by_cases hc : (confl l r).2 = true
    · rw [if_pos hc]; exact ⟨r, by simp, hc, rfl⟩
    · rw [if_neg hc] at h ⊢
      obtain ⟨x, hx, h1⟩ := cmpGo_t h
      exact ⟨x, by simp [hx], h1⟩
theorem cmpGo_iff {l : List Rt} : ∀ {m : List Rt}, (cmpGo l m).2 = true ↔ ∃ r ∈ m, (confl l r).2 = true
  | [] => by simp [cmpGo]
  | r :: t => by
    unfold cmpGo
    by_cases hc : (confl l r).2 = true
    · rw [if_pos hc]; simp [hc]
    · rw [if_neg hc, cmpGo_iff]; simp [hc]
theorem cmp_ok {b : Int} {v w : Wt} (hv : WOk b v) (hw : WOk b w) (hp : v.pub = w.pub) : cmpW b v w = cmpGo v.rs w.rs := by
  unfold cmpW; rw [wchk_iff.2 hv, wchk_iff.2 hw, decide_eq_true hp]; rfl
theorem cmp_cases {b : Int} {v w : Wt} (h : (cmpW b v w).2 = true) : WOk b v ∧ WOk b w ∧ v.pub = w.pub := by
  unfold cmpW at h
  split at h
  · rename_i h1
    simp only [Bool.and_eq_true, decide_eq_true_iff] at h1
    exact ⟨wchk_iff.1 h1.1.1, wchk_iff.1 h1.1.2, h1.2⟩
  · cases h
/-- the law GossipProofs, of Compare. -/
theorem cmp_proofs {b : Int} {v w : Wt} (h : (cmpW b v w).2 = true) : proveS b v.pub (cmpW b v w).1 = 0 := by
  obtain ⟨hv, hw, hp⟩ := cmp_cases h
  rw [cmp_ok hv hw hp] at h ⊢
  obtain ⟨r, hr, hc, e⟩ := cmpGo_t h
  rw [e]
  exact confl_prove hv.pr (by rw [hp]; exact hw.pr r hr) hc
/-- the law GossipEither. -/
theorem cmp_iff {b : Int} {v w : Wt} (hv : WOk b v) (hw : WOk b w) (hp : v.pub = w.pub) : (cmpW b v w).2 = true ↔ ∃ x ∈ v.rs, ∃ r ∈ w.rs, contraB x r = true ∨ contraB r x = true := by
  rw [cmp_ok hv hw hp, cmpGo_iff]
  constructor
  · rintro ⟨r, hr, h⟩
    obtain ⟨x, hx, h⟩ := (confl_iff hv.up hv.free).1 h
    exact ⟨x, hx, r, hr, h⟩
  · rintro ⟨x, hx, r, hr, h⟩
    exact ⟨r, hr, (confl_iff hv.up hv.free).2 ⟨x, hx, h⟩⟩
theorem cmp_either {b : Int} {v w : Wt} (hv : WOk b v) (hw : WOk b w) (hp : v.pub = w.pub) : (cmpW b v w).2 = (cmpW b w v).2 := by
  rw [Bool.eq_iff_iff, cmp_iff hv hw hp, cmp_iff hw hv hp.symm]
  constructor
  · rintro ⟨x, hx, r, hr, h⟩; exact ⟨r, hr, x, hx, h.symm⟩
  · rintro ⟨x, hx, r, hr, h⟩; exact ⟨r, hr, x, hx, h.symm⟩
theorem acc_split {b : Int} {v : Wt} {r : Rt} (hv : WOk b v) (hr : properB b v.pub r = true) : (accW b v r).2.2 = if (confl v.rs r).2 then 361 else 0 := by
  unfold accW
  rw [if_pos (wchk_iff.2 hv), if_pos hr]
  split <;> rfl
theorem cmp_refused {b : Int} {v w : Wt} (hv : WOk b v) (hw : WOk b w) (hp : v.pub = w.pub) : (cmpW b v w).2 = v.rs.any (fun r => (accW b w r).2.2 == 361) := by
  rw [Bool.eq_iff_iff, cmp_iff hv hw hp, List.any_eq_true]
  have e : ∀ r ∈ v.rs, ((accW b w r).2.2 == 361) = (confl w.rs r).2 := fun r hr => by
    rw [acc_split hw (by rw [← hp]; exact hv.pr r hr)]
    cases (confl w.rs r).2 <;> rfl
  constructor
  · rintro ⟨x, hx, r, hr, h⟩
    exact ⟨x, hx, by rw [e x hx]; exact (confl_iff hw.up hw.free).2 ⟨r, hr, h.symm⟩⟩
  · rintro ⟨x, hx, h⟩
    rw [e x hx] at h
    obtain ⟨r, hr, h⟩ := (confl_iff hw.up hw.free).1 h
    exact ⟨x, hx, r, hr, h.symm⟩

/-! ### honest directories -/
section
variable {b pub : Int} {R : List Rt}
theorem hist_proper (H : Hist b pub R) {r : Rt} (hr : r ∈ R) : properB b pub r = true := by
  obtain ⟨i, hi⟩ := List.mem_iff_getElem?.1 hr
  obtain ⟨h1, h2, h3⟩ := H i r hi
  unfold properB
  rw [h3, Bool.true_and, Bool.or_eq_true, decide_eq_true_iff, decide_eq_true_iff]
  by_cases h : i = 0
  · subst h; exact .inr h2
  · exact .inl (by omega)
theorem hist_same (H : Hist b pub R) {x y : Rt} (hx : x ∈ R) (hy : y ∈ R) (h : x.no = y.no) : x = y := by
  obtain ⟨i, hi⟩ := List.mem_iff_getElem?.1 hx
  obtain ⟨j, hj⟩ := List.mem_iff_getElem?.1 hy
  have h1 := (H i x hi).1
  have h2 := (H j y hj).1
  have : i = j := by omega
  subst this
  rw [hi] at hj
  exact Option.some.inj hj
theorem hist_free (H : Hist b pub R) : Free R := fun x hx y hy => by
  cases e : contraB x y with
  | false => rfl
  | true =>
    rcases contra_no e with h | h
    · rw [hist_same H hx hy h, contra_self] at e; cases e
    · exfalso
      rw [contra_next h] at e
      obtain ⟨i, hi⟩ := List.mem_iff_getElem?.1 hx
      obtain ⟨j, hj⟩ := List.mem_iff_getElem?.1 hy
      have h1 := (H i x hi).1
      have h2 := H j y hj
      have : j = i + 1 := by omega
      subst this
      exact e (h2.2.1.trans (prevOf_take hi))
/-- a watch of some roots of a directory. -/
structure Seen (b pub : Int) (R : List Rt) (w : Wt) : Prop where
  ok : WOk b w
  pub : w.pub = pub
  sub : ∀ x ∈ w.rs, x ∈ R
theorem seen_new : Seen b pub R ⟨pub, []⟩ := ⟨acc_new _ _, rfl, fun x hx => by cases hx⟩
theorem seen_step {w : Wt} {r : Rt} (H : Hist b pub R) (S : Seen b pub R w) (hr : r ∈ R) : ∃ v, accW b w r = (v, zeroS, 0) ∧ Seen b pub R v ∧ r ∈ v.rs ∧ v.rs.length ≤ w.rs.length + 1 := by
  have hf := hist_free H
  obtain ⟨v, h1, h2, h3, h4, _, h5⟩ := acc_mem S.ok (by rw [S.pub]; exact hist_proper H hr) (confl_none (fun x hx => ⟨hf x (S.sub x hx) r hr, hf r hr x (S.sub x hx)⟩))
  refine ⟨v, h1, ⟨h2, by rw [h3, S.pub], fun x hx => ?_⟩, (h4 r).2 (.inl rfl), h5⟩
  rcases (h4 x).1 hx with rfl | h
  · exact hr
  · exact S.sub x h
theorem seen_cmp {v w : Wt} (H : Hist b pub R) (S : Seen b pub R v) (T : Seen b pub R w) : cmpW b v w = (zeroS, false) := by
  have hf := hist_free H
  rw [cmp_ok S.ok T.ok (by rw [S.pub, T.pub])]
  have : ∀ m : List Rt, (∀ x ∈ m, x ∈ R) → cmpGo v.rs m = (zeroS, false) := by
    intro m
    induction m with
    | nil => intro _; rfl
    | cons r t ih =>
      intro hm
      unfold cmpGo
      have hr := hm r (by simp)
      rw [confl_none (fun x hx => ⟨hf x (S.sub x hx) r hr, hf r hr x (S.sub x hx)⟩), if_neg (by simp)]
      exact ih (fun x hx => hm x (by simp [hx]))
  exact this _ T.sub
theorem own_prove (H : Hist b pub R) {x y : Rt} (hx : x ∈ R) (hy : y ∈ R) : proveS b pub (x, y) = 361 := by
  unfold proveS proveB
  rw [hist_free H x hx y hy]
  simp
end
/-- the law GossipCaught. -/
theorem caught {b pub : Int} {v w : Wt} {r s : Rt} (hv : WOk b v) (hw : WOk b w) (pv : v.pub = pub) (pw : w.pub = pub) (hr : r ∈ v.rs) (hs : s ∈ w.rs) (hn : r.no = s.no) (hne : r ≠ s) :
    (cmpW b v w).2 = true ∧ (cmpW b w v).2 = true ∧ (accW b v s).2.2 = 361 ∧ proveS b pub (cmpW b v w).1 = 0 ∧ proveS b pub (cmpW b w v).1 = 0 ∧ proveS b pub (accW b v s).2.1 = 0 := by
  have hc : contraB r s = true := (contra_same hn).2 hne
  have h1 : (cmpW b v w).2 = true := (cmp_iff hv hw (by rw [pv, pw])).2 ⟨r, hr, s, hs, .inl hc⟩
  have h2 : (cmpW b w v).2 = true := (cmp_iff hw hv (by rw [pv, pw])).2 ⟨s, hs, r, hr, .inr hc⟩
  have h3 : (accW b v s).2.2 = 361 := by
    rw [acc_split hv (by rw [pv, ← pw]; exact hw.pr s hs), confl_of hv.up hv.free hr (.inl hc)]
    rfl
  refine ⟨h1, h2, h3, ?_, ?_, ?_⟩
  · rw [← pv]; exact cmp_proofs h1
  · rw [← pw]; exact cmp_proofs h2
  · rw [← pv]; exact (acc_proofs.1 h3).1
end Go.Dr
