/- the watches, plainly: what the functions of chapter 36 compute, and what its laws say of them; no program but the words for signatures reference 36, plainly: its loops compute what the package's functions compute; no program -/
import Derived.Test.YtlpgjdlkjahdgaaGreatDoorDrP
namespace Go.Dr

structure Wt where
 pub : Int
 rs : List Rt
def zeroW : Wt := ⟨0, []⟩
def zeroS : Rt × Rt := (zeroR, zeroR)
def properB (b pub : Int) (r : Rt) : Bool := signedB b pub r && (decide (1 < r.no) || decide (r.prev = zd))
def contraB (a c : Rt) : Bool := if a.no = c.no then !eqR a c else decide (a.no = c.no - 1) && !decide (c.prev = idR a)
def stepOk (p : Option Rt) (r : Rt) : Bool := match p with | none => true | some q => decide (q.no < r.no) && !contraB q r
def wchkGo (b pub : Int) : Option Rt → List Rt → Bool
 | _, [] => true
 | p, r :: t => properB b pub r && stepOk p r && wchkGo b pub (some r) t
def wchk (b : Int) (w : Wt) : Bool := wchkGo b w.pub none w.rs
def posR (k : Int) (l : List Rt) : Nat := l.findIdx (fun y => decide (k ≤ y.no))
def metR (k : Int) (l : List Rt) : Bool := match l[posR k l]? with | some y => decide (y.no = k) | none => false
def conflN (nx : Option Rt) (r : Rt) : (Rt × Rt) × Bool := match nx with | some y => if contraB r y then ((r, y), true) else (zeroS, false) | none => (zeroS, false)
def conflP (pv nx : Option Rt) (r : Rt) : (Rt × Rt) × Bool := match pv with | some q => if contraB q r then ((q, r), true) else conflN nx r | none => conflN nx r
def conflM (pv nx : Option Rt) (r : Rt) : (Rt × Rt) × Bool := match nx with | some y => if y.no = r.no then ((y, r), contraB y r) else conflP pv (some y) r | none => conflP pv none r
def confl (l : List Rt) (r : Rt) : (Rt × Rt) × Bool := conflM ((l.take (posR r.no l)).getLast?) (l[posR r.no l]?) r
def insR (r : Rt) (l : List Rt) : List Rt := l.take (posR r.no l) ++ r :: l.drop (posR r.no l)
def accW (b : Int) (w : Wt) (r : Rt) : Wt × (Rt × Rt) × Int :=
 if wchk b w then (if properB b w.pub r then (if (confl w.rs r).2 then (w, (confl w.rs r).1, 361) else (if metR r.no w.rs then w else ⟨w.pub, insR r w.rs⟩, zeroS, 0)) else (zeroW, zeroS, 360)) else (zeroW, zeroS, 360)
def cmpGo (l : List Rt) : List Rt → (Rt × Rt) × Bool
 | [] => (zeroS, false)
 | r :: t => if (confl l r).2 then ((confl l r).1, true) else cmpGo l t
def cmpW (b : Int) (v w : Wt) : (Rt × Rt) × Bool := if wchk b v && wchk b w && decide (v.pub = w.pub) then cmpGo v.rs w.rs else (zeroS, false)
def proveB (b pub : Int) (s : Rt × Rt) : Bool := properB b pub s.1 && properB b pub s.2 && contraB s.1 s.2
def proveS (b pub : Int) (s : Rt × Rt) : Int := if proveB b pub s then 0 else 361

theorem proper_no {b pub : Int} {r : Rt} (h : properB b pub r = true) : 1 ≤ r.no ∧ r.no ≤ 65536 := by
 unfold properB signedB at h
 simp only [Bool.and_eq_true, decide_eq_true_iff] at h
 exact h.1.1
theorem contra_self (a : Rt) : contraB a a = false := by unfold contraB; rw [if_pos rfl, eqR_refl]; rfl
theorem contra_same {a c : Rt} (h : a.no = c.no) : contraB a c = true ↔ a ≠ c := by
 unfold contraB
 rw [if_pos h, Bool.not_eq_true']
 constructor
 · rintro h1 rfl; rw [eqR_refl] at h1; cases h1
 · exact eqR_ne
theorem contra_next {a c : Rt} (h : a.no = c.no - 1) : contraB a c = true ↔ c.prev ≠ idR a := by
 unfold contraB
 rw [if_neg (by omega), decide_eq_true h]
 simp
theorem contra_no {a c : Rt} (h : contraB a c = true) : a.no = c.no ∨ a.no = c.no - 1 := by
 unfold contraB at h
 split at h
 · rename_i e; exact .inl e
 · rw [Bool.and_eq_true, decide_eq_true_iff] at h; exact .inr h.1
def Free (l : List Rt) : Prop := ∀ x ∈ l, ∀ y ∈ l, contraB x y = false
structure WOk (b : Int) (w : Wt) : Prop where
 pr : ∀ x ∈ w.rs, properB b w.pub x = true
 up : w.rs.Pairwise (fun a c => a.no < c.no)
 free : Free w.rs
theorem wchkGo_iff (b pub : Int) : ∀ (l : List Rt) (p : Option Rt), wchkGo b pub p l = true ↔ (∀ x ∈ l, properB b pub x = true) ∧ l.Pairwise (fun a c => a.no < c.no) ∧ (∀ x ∈ l, ∀ y ∈ l, contraB x y = false) ∧ ∀ q, p = some q → ∀ x ∈ l, q.no < x.no ∧ contraB q x = false
 | [], p => by simp [wchkGo]
 | r :: t, p => by
  have ih := wchkGo_iff b pub t (some r)
  rw [wchkGo, Bool.and_eq_true, Bool.and_eq_true, ih]
  constructor
  · rintro ⟨⟨h1, h2⟩, h3, h4, h5, h6⟩
    have h6' := h6 r rfl
    have h7 : ∀ x ∈ t, contraB x r = false := fun x hx => by
     cases e : contraB x r with
     | false => rfl
     | true => have := contra_no e; have := (h6' x hx).1; omega
    refine ⟨?_, List.pairwise_cons.2 ⟨fun x hx => (h6' x hx).1, h4⟩, ?_, ?_⟩
    · intro x hx
      rcases List.mem_cons.1 hx with rfl | hx
      · exact h1
      · exact h3 x hx
    · intro x hx y hy
      rcases List.mem_cons.1 hx with ex | hx' <;> rcases List.mem_cons.1 hy with ey | hy'
      · rw [ex, ey]; exact contra_self _
      · rw [ex]; exact (h6' y hy').2
      · rw [ey]; exact h7 x hx'
      · exact h5 x hx' y hy'
    · rintro q rfl x hx
      simp only [stepOk, Bool.and_eq_true, decide_eq_true_iff, Bool.not_eq_true'] at h2
      rcases List.mem_cons.1 hx with rfl | hx
      · exact h2
      · have hrx := (h6' x hx).1
        refine ⟨by omega, ?_⟩
        cases e : contraB q x with
        | false => rfl
        | true => have := contra_no e; omega
  · rintro ⟨h1, h2, h3, h4⟩
    rw [List.pairwise_cons] at h2
    refine ⟨⟨h1 r (by simp), ?_⟩, fun x hx => h1 x (by simp [hx]), h2.2, fun x hx y hy => h3 x (by simp [hx]) y (by simp [hy]), ?_⟩
    · cases p with
      | none => rfl
      | some q =>
       have := h4 q rfl r (by simp)
       simp only [stepOk, Bool.and_eq_true, decide_eq_true_iff, Bool.not_eq_true']
       exact this
    · rintro q hq x hx
      cases hq
      exact ⟨h2.1 x hx, h3 r (by simp) x (by simp [hx])⟩
theorem wchk_iff {b : Int} {w : Wt} : wchk b w = true ↔ WOk b w := by
 unfold wchk
 rw [wchkGo_iff]
 exact ⟨fun h => ⟨h.1, h.2.1, h.2.2.1⟩, fun h => ⟨h.pr, h.up, h.free, fun _ e => by cases e⟩⟩

/-! ### where a number belongs -/
theorem posR_le (k : Int) (l : List Rt) : posR k l ≤ l.length := List.findIdx_le_length
theorem posR_eq {k : Int} {l : List Rt} {i : Nat} (hi : i ≤ l.length) (hlo : ∀ p t, p < i → l[p]? = some t → t.no < k) (hhi : ∀ t, l[i]? = some t → k ≤ t.no) : posR k l = i := by
 unfold posR
 by_cases h : i < l.length
 · rw [List.findIdx_eq h]
   refine ⟨by simpa using hhi _ (List.getElem?_eq_getElem h), fun j hj => ?_⟩
   have := hlo j l[j] hj (List.getElem?_eq_getElem (by omega))
   simpa using this
 · rw [show i = l.length by omega]
   refine List.findIdx_eq_length.2 fun x hx => ?_
   obtain ⟨j, hj⟩ := List.mem_iff_getElem?.1 hx
   have := hlo j x (by have := (List.getElem?_eq_some_iff.1 hj).1; omega) hj
   simpa using this
theorem posR_lo {k : Int} {l : List Rt} {p : Nat} {t : Rt} (hp : p < posR k l) (h : l[p]? = some t) : t.no < k := by
 have h1 := List.not_of_lt_findIdx (p := fun y : Rt => decide (k ≤ y.no)) (xs := l) (i := p) hp
 rw [show l[p]'(List.getElem?_eq_some_iff.1 h).1 = t from (List.getElem?_eq_some_iff.1 h).2] at h1
 simpa using h1
theorem posR_hi {k : Int} {l : List Rt} {t : Rt} (h : l[posR k l]? = some t) : k ≤ t.no := by
 have hi := (List.getElem?_eq_some_iff.1 h).1
 have h1 := List.findIdx_getElem (p := fun y : Rt => decide (k ≤ y.no)) (xs := l) (w := hi)
 have e : l[l.findIdx fun y : Rt => decide (k ≤ y.no)]'hi = t := (List.getElem?_eq_some_iff.1 h).2
 rw [e] at h1
 simpa using h1
theorem up_lt {l : List Rt} (hp : l.Pairwise (fun a c => a.no < c.no)) {i j : Nat} {x y : Rt} (hij : i < j) (hx : l[i]? = some x) (hy : l[j]? = some y) : x.no < y.no := by
 obtain ⟨h1, rfl⟩ := List.getElem?_eq_some_iff.1 hx
 obtain ⟨h2, rfl⟩ := List.getElem?_eq_some_iff.1 hy
 exact List.pairwise_iff_getElem.1 hp i j h1 h2 hij
theorem at_same {k : Int} {l : List Rt} {x : Rt} (hp : l.Pairwise (fun a c => a.no < c.no)) (hx : x ∈ l) (hk : x.no = k) : l[posR k l]? = some x := by
 obtain ⟨i, hi⟩ := List.mem_iff_getElem?.1 hx
 have hil := (List.getElem?_eq_some_iff.1 hi).1
 rw [posR_eq (i := i) (by omega) (fun p t hpi ht => by have := up_lt hp hpi ht hi; omega) (fun t ht => by rw [hi] at ht; cases ht; omega)]
 exact hi
theorem metR_iff {k : Int} {l : List Rt} (hp : l.Pairwise (fun a c => a.no < c.no)) : metR k l = true ↔ ∃ x ∈ l, x.no = k := by
 unfold metR
 constructor
 · intro h
   cases e : l[posR k l]? with
   | none => rw [e] at h; cases h
   | some y => rw [e] at h; exact ⟨y, List.mem_of_getElem? e, by simpa using h⟩
 · rintro ⟨x, hx, hk⟩
   rw [at_same hp hx hk]
   simpa using hk

/-! ### contradictions -/
theorem confl_t {l : List Rt} {r : Rt} (h : (confl l r).2 = true) : ∃ x ∈ l, ((confl l r).1 = (x, r) ∧ contraB x r = true) ∨ ((confl l r).1 = (r, x) ∧ contraB r x = true) := by
 unfold confl at *
 cases e : l[posR r.no l]? with
 | none =>
  rw [e] at h
  simp only [conflM, conflP] at h ⊢
  cases e2 : (l.take (posR r.no l)).getLast? with
  | none => rw [e2] at h; cases h
  | some q =>
   rw [e2] at h
   have hq : q ∈ l := List.mem_of_mem_take (List.mem_of_getLast? e2)
   cases hc : contraB q r with
   | true => exact ⟨q, hq, .inl ⟨by simp [hc], hc⟩⟩
   | false => simp [hc, conflN] at h
 | some y =>
  rw [e] at h
  have hy : y ∈ l := List.mem_of_getElem? e
  simp only [conflM] at h ⊢
  split at h
  · rename_i hn
    exact ⟨y, hy, .inl ⟨by rw [if_pos hn], h⟩⟩
  · rename_i hn
    rw [if_neg hn]
    simp only [conflP] at h ⊢
    cases e2 : (l.take (posR r.no l)).getLast? with
    | none =>
     rw [e2] at h
     simp only [conflN] at h ⊢
     cases hc : contraB r y with
     | true => exact ⟨y, hy, .inr ⟨by simp, hc⟩⟩
     | false => simp [hc] at h
    | some q =>
     rw [e2] at h
     have hq : q ∈ l := List.mem_of_mem_take (List.mem_of_getLast? e2)
     simp only at h ⊢
     cases hc : contraB q r with
     | true => exact ⟨q, hq, .inl ⟨by simp, hc⟩⟩
     | false =>
      simp only [hc, Bool.false_eq_true, if_false, conflN] at h ⊢
      cases hc2 : contraB r y with
      | true => exact ⟨y, hy, .inr ⟨by simp, hc2⟩⟩
      | false => simp [hc2] at h
theorem confl_none {l : List Rt} {r : Rt} (h : ∀ x ∈ l, contraB x r = false ∧ contraB r x = false) : (confl l r).2 = false := by
 cases e : (confl l r).2 with
 | false => rfl
 | true =>
  obtain ⟨x, hx, h1⟩ := confl_t e
  have := h x hx
  rcases h1 with h1 | h1
  · rw [this.1] at h1; cases h1.2
  · rw [this.2] at h1; cases h1.2
theorem prove_mk {b pub : Int} {s : Rt × Rt} (h1 : properB b pub s.1 = true) (h2 : properB b pub s.2 = true) (h3 : contraB s.1 s.2 = true) : proveS b pub s = 0 := by
 unfold proveS proveB; rw [h1, h2, h3]; rfl
/-! ### accepting -/
theorem insR_mem {r x : Rt} {l : List Rt} : x ∈ insR r l ↔ x = r ∨ x ∈ l := by
 unfold insR
 rw [List.mem_append, List.mem_cons]
 conv => rhs; rw [← List.take_append_drop (posR r.no l) l, List.mem_append]
 constructor
 · rintro (h | h | h) <;> simp_all
 · rintro (h | h | h) <;> simp_all
theorem insR_length (r : Rt) (l : List Rt) : (insR r l).length = l.length + 1 := by
 have := posR_le r.no l
 unfold insR
 simp only [List.length_append, List.length_take, List.length_cons, List.length_drop]
 omega
theorem acc_new (b pub : Int) : WOk b ⟨pub, []⟩ := ⟨by simp, List.Pairwise.nil, by intro x hx; cases hx⟩
theorem cmp_ok {b : Int} {v w : Wt} (hv : WOk b v) (hw : WOk b w) (hp : v.pub = w.pub) : cmpW b v w = cmpGo v.rs w.rs := by
 unfold cmpW; rw [wchk_iff.2 hv, wchk_iff.2 hw, decide_eq_true hp]; rfl
theorem acc_split {b : Int} {v : Wt} {r : Rt} (hv : WOk b v) (hr : properB b v.pub r = true) : (accW b v r).2.2 = if (confl v.rs r).2 then 361 else 0 := by
 unfold accW
 rw [if_pos (wchk_iff.2 hv), if_pos hr]
 split <;> rfl
/-! ### honest directories -/
section
variable {b pub : Int} {R : List Rt}
theorem hist_proper (H : Hist b pub R) {r : Rt} (hr : r ∈ R) : properB b pub r = true := by
 obtain ⟨i, hi⟩ := List.mem_iff_getElem?.1 hr
 obtain ⟨h1, h2, h3⟩ := H i r hi
 unfold properB
 rw [h3, Bool.true_and, Bool.or_eq_true, decide_eq_true_iff, decide_eq_true_iff]
 by_cases h : i = 0
 · subst h; exact .inr h2
 · exact .inl (by omega)
theorem hist_same (H : Hist b pub R) {x y : Rt} (hx : x ∈ R) (hy : y ∈ R) (h : x.no = y.no) : x = y := by
 obtain ⟨i, hi⟩ := List.mem_iff_getElem?.1 hx
 obtain ⟨j, hj⟩ := List.mem_iff_getElem?.1 hy
 have h1 := (H i x hi).1
 have h2 := (H j y hj).1
 have : i = j := by omega
 subst this
 rw [hi] at hj
 exact Option.some.inj hj
theorem hist_free (H : Hist b pub R) : Free R := fun x hx y hy => by
 cases e : contraB x y with
 | false => rfl
 | true =>
  rcases contra_no e with h | h
  · rw [hist_same H hx hy h, contra_self] at e; cases e
  · exfalso
    rw [contra_next h] at e
    obtain ⟨i, hi⟩ := List.mem_iff_getElem?.1 hx
    obtain ⟨j, hj⟩ := List.mem_iff_getElem?.1 hy
    have h1 := (H i x hi).1
    have h2 := H j y hj
    have : j = i + 1 := by omega
    subst this
    exact e (h2.2.1.trans (prevOf_take hi))
end
end Go.Dr
namespace Go.Dr
def refAt (r : Rt) : List Rt → Nat → Nat → Option Rt × Nat
 | [], _, p => (none, p)
 | y :: t, i, p => if y.no = r.no then (some y, p) else refAt r t (i + 1) (if y.no < r.no then i + 1 else p)
def refLo (r : Rt) : List Rt → Option Rt
 | [] => none
 | y :: t => if y.no = r.no - 1 ∧ contraB y r = true then some y else refLo r t
def refHi (r : Rt) : List Rt → Option Rt
 | [] => none
 | y :: t => if y.no = r.no + 1 ∧ contraB r y = true then some y else refHi r t
def refPut (w : Wt) (r : Rt) (p : Nat) : Wt × (Rt × Rt) × Int :=
 match refLo r w.rs with
 | some y => (w, (y, r), 361)
 | none => match refHi r w.rs with
  | some y => (w, (r, y), 361)
  | none => (⟨w.pub, w.rs.take p ++ r :: w.rs.drop p⟩, zeroS, 0)
def refAcc (b : Int) (w : Wt) (r : Rt) : Wt × (Rt × Rt) × Int :=
 if wchk b w then (if properB b w.pub r then
  (match (refAt r w.rs 0 0).1 with
    | some y => if contraB y r then (w, (y, r), 361) else (w, zeroS, 0)
    | none => refPut w r (refAt r w.rs 0 0).2) else (zeroW, zeroS, 360)) else (zeroW, zeroS, 360)

theorem refAt_lo {r : Rt} {B : List Rt} : ∀ (A : List Rt) (i p : Nat), (∀ y ∈ A, y.no < r.no) → refAt r (A ++ B) i p = refAt r B (i + A.length) (if A = [] then p else i + A.length)
 | [], i, p, _ => by simp
 | y :: t, i, p, h => by
  have hy := h y (by simp)
  rw [List.cons_append, refAt, if_neg (by omega), if_pos hy, refAt_lo t (i + 1) (i + 1) (fun z hz => h z (by simp [hz]))]
  simp only [List.length_cons, if_neg (List.cons_ne_nil y t)]
  rw [show i + 1 + t.length = i + (t.length + 1) by omega]
  congr 1
  by_cases e : t = []
  · subst e; simp
  · rw [if_neg e]
theorem refAt_hi {r : Rt} : ∀ (B : List Rt) (i p : Nat), (∀ y ∈ B, r.no < y.no) → refAt r B i p = (none, p)
 | [], _, _, _ => rfl
 | y :: t, i, p, h => by
  have hy := h y (by simp)
  rw [refAt, if_neg (by omega), if_neg (by omega), refAt_hi t _ _ (fun z hz => h z (by simp [hz]))]
theorem refLo_app {r : Rt} {B : List Rt} : ∀ (A : List Rt), (∀ y ∈ A, y.no ≠ r.no - 1) → refLo r (A ++ B) = refLo r B
 | [], _ => rfl
 | y :: t, h => by
  rw [List.cons_append, refLo, if_neg (fun e => h y (by simp) e.1), refLo_app t (fun z hz => h z (by simp [hz]))]
theorem refLo_none {r : Rt} {A : List Rt} (h : ∀ y ∈ A, y.no ≠ r.no - 1) : refLo r A = none := by
 have := refLo_app (B := []) A h
 rwa [List.append_nil] at this
theorem refHi_app {r : Rt} {B : List Rt} : ∀ (A : List Rt), (∀ y ∈ A, y.no ≠ r.no + 1) → refHi r (A ++ B) = refHi r B
 | [], _ => rfl
 | y :: t, h => by
  rw [List.cons_append, refHi, if_neg (fun e => h y (by simp) e.1), refHi_app t (fun z hz => h z (by simp [hz]))]
theorem refHi_none {r : Rt} {A : List Rt} (h : ∀ y ∈ A, y.no ≠ r.no + 1) : refHi r A = none := by
 have := refHi_app (B := []) A h
 rwa [List.append_nil] at this
theorem refLo_eq {r : Rt} {l : List Rt} (hp : l.Pairwise (fun a c => a.no < c.no)) (hn : ∀ y ∈ l, y.no ≠ r.no) :
 refLo r l = match (l.take (posR r.no l)).getLast? with | some q => if contraB q r then some q else none | none => none := by
 have hlo : ∀ y ∈ l.take (posR r.no l), y.no < r.no := fun y hy => by
  obtain ⟨i, hi⟩ := List.mem_iff_getElem?.1 hy
  rw [List.getElem?_take] at hi
  split at hi
  · exact posR_lo (by assumption) hi
  · cases hi
 have hhi : ∀ y ∈ l.drop (posR r.no l), r.no < y.no := fun y hy => by
  obtain ⟨i, hi⟩ := List.mem_iff_getElem?.1 hy
  rw [List.getElem?_drop] at hi
  have hm := hn y (List.mem_of_getElem? hi)
  cases i with
  | zero => have := posR_hi hi; omega
  | succ j =>
   have hlt : posR r.no l < l.length := by have := (List.getElem?_eq_some_iff.1 hi).1; omega
   have h0 : l[posR r.no l]? = some l[posR r.no l] := List.getElem?_eq_getElem hlt
   have := posR_hi h0
   have := up_lt hp (by omega : posR r.no l < posR r.no l + (j + 1)) h0 hi
   omega
 conv => lhs; rw [← List.take_append_drop (posR r.no l) l]
 obtain ⟨A, hA⟩ : ∃ A, l.take (posR r.no l) = A := ⟨_, rfl⟩
 obtain ⟨B, hB⟩ : ∃ B, l.drop (posR r.no l) = B := ⟨_, rfl⟩
 have hpA : A.Pairwise (fun a c => a.no < c.no) := by rw [← hA]; exact hp.sublist (List.take_sublist _ _)
 rw [hA] at hlo ⊢
 rw [hB] at hhi ⊢
 rcases List.eq_nil_or_concat A with e | ⟨A', q, e⟩
 · subst e
   rw [List.nil_append, refLo_none (fun y hy => by have := hhi y hy; omega)]
   rfl
 · rw [List.concat_eq_append] at e
   subst e
   have hq := hlo q (by simp)
   rw [List.append_assoc, refLo_app A' (fun y hy => by have := (List.pairwise_append.1 hpA).2.2 y hy q (by simp); omega), List.getLast?_concat, List.cons_append, refLo, List.nil_append, refLo_none (fun y hy => by have := hhi y hy; omega)]
   by_cases hc : contraB q r = true
   · rw [if_pos ⟨by rcases contra_no hc with h | h <;> omega, hc⟩]; simp [hc]
   · rw [if_neg (fun h => hc h.2)]; simp [hc]
theorem refHi_eq {r : Rt} {l : List Rt} (hp : l.Pairwise (fun a c => a.no < c.no)) (hn : ∀ y ∈ l, y.no ≠ r.no) :
 refHi r l = match l[posR r.no l]? with | some y => if contraB r y then some y else none | none => none := by
 have hlo : ∀ y ∈ l.take (posR r.no l), y.no < r.no := fun y hy => by
  obtain ⟨i, hi⟩ := List.mem_iff_getElem?.1 hy
  rw [List.getElem?_take] at hi
  split at hi
  · exact posR_lo (by assumption) hi
  · cases hi
 conv => lhs; rw [← List.take_append_drop (posR r.no l) l]
 rw [refHi_app _ (fun y hy => by have := hlo y hy; omega)]
 cases e : l[posR r.no l]? with
 | none =>
  rw [List.drop_eq_nil_of_le (by have := List.getElem?_eq_none_iff.1 e; exact this)]
  rfl
 | some y =>
  obtain ⟨hi, hy⟩ := List.getElem?_eq_some_iff.1 e
  rw [List.drop_eq_getElem_cons hi, hy, refHi]
  have hge := posR_hi e
  have hne := hn y (List.mem_of_getElem? e)
  have ht : refHi r (l.drop (posR r.no l + 1)) = none := refHi_none (fun z hz => by
   obtain ⟨i, hi2⟩ := List.mem_iff_getElem?.1 hz
   rw [List.getElem?_drop] at hi2
   have := up_lt hp (by omega : posR r.no l < posR r.no l + 1 + i) e hi2
   omega)
  rw [ht]
  by_cases hc : contraB r y = true
  · rw [if_pos ⟨by rcases contra_no hc with h | h <;> omega, hc⟩]; simp [hc]
  · rw [if_neg (fun h => hc h.2)]; simp [hc]
theorem refAcc_eq (b : Int) (w : Wt) (r : Rt) : refAcc b w r = accW b w r := by
 unfold refAcc accW
 by_cases hw : wchk b w = true
 rotate_left
 · rw [if_neg hw, if_neg hw]
 rw [if_pos hw, if_pos hw]
 by_cases hr : properB b w.pub r = true
 rotate_left
 · rw [if_neg hr, if_neg hr]
 rw [if_pos hr, if_pos hr]
 have hp := (wchk_iff.1 hw).up
 obtain ⟨pub, l⟩ := w
 simp only at hp ⊢
 have hlo : ∀ y ∈ l.take (posR r.no l), y.no < r.no := fun y hy => by
  obtain ⟨i, hi⟩ := List.mem_iff_getElem?.1 hy
  rw [List.getElem?_take] at hi
  split at hi
  · exact posR_lo (by assumption) hi
  · cases hi
 have hle := posR_le r.no l
 have hat : refAt r l 0 0 = refAt r (l.drop (posR r.no l)) (posR r.no l) (posR r.no l) := by
  conv => lhs; rw [← List.take_append_drop (posR r.no l) l]
  rw [refAt_lo _ 0 0 hlo]
  have hlen : (l.take (posR r.no l)).length = posR r.no l := by rw [List.length_take]; omega
  rw [hlen, Nat.zero_add]
  congr 1
  split
  · rename_i e
    rw [e] at hlen
    exact hlen
  · rfl
 cases e : l[posR r.no l]? with
 | some y =>
  obtain ⟨hi, hy⟩ := List.getElem?_eq_some_iff.1 e
  have hge := posR_hi e
  by_cases hs : y.no = r.no
  · have h1 : refAt r l 0 0 = (some y, posR r.no l) := by rw [hat, List.drop_eq_getElem_cons hi, hy, refAt, if_pos hs]
    have h2 : confl l r = ((y, r), contraB y r) := by unfold confl conflM; rw [e]; simp [hs]
    have h3 : metR r.no l = true := by unfold metR; rw [e]; simp [hs]
    rw [h1, h2, h3]
    simp only []
    cases contraB y r <;> simp
  · have hn : ∀ z ∈ l, z.no ≠ r.no := fun z hz h => by
     have := at_same hp hz h
     rw [e, Option.some.injEq] at this
     subst this
     exact hs h
    have hhi : ∀ z ∈ l.drop (posR r.no l), r.no < z.no := fun z hz => by
     obtain ⟨i, hi2⟩ := List.mem_iff_getElem?.1 hz
     rw [List.getElem?_drop] at hi2
     have hm := hn z (List.mem_of_getElem? hi2)
     cases i with
     | zero => have := posR_hi hi2; omega
     | succ j => have := up_lt hp (by omega : posR r.no l < posR r.no l + (j + 1)) e hi2; omega
    have h1 : refAt r l 0 0 = (none, posR r.no l) := by rw [hat, refAt_hi _ _ _ hhi]
    have h3 : metR r.no l = false := by unfold metR; rw [e]; simp [hs]
    rw [h1, h3]
    simp only [refPut, refLo_eq hp hn, refHi_eq hp hn, e]
    unfold confl conflM conflP conflN insR
    rw [e]
    simp only [if_neg hs]
    cases (l.take (posR r.no l)).getLast? with
    | none => simp only []; cases contraB r y <;> simp
    | some q => simp only []; cases contraB q r <;> cases contraB r y <;> simp
 | none =>
  have hn : ∀ z ∈ l, z.no ≠ r.no := fun z hz h => by
   have := at_same hp hz h
   rw [e] at this
   cases this
  have h1 : refAt r l 0 0 = (none, posR r.no l) := by
   rw [hat, List.drop_eq_nil_of_le (by have := List.getElem?_eq_none_iff.1 e; exact this)]
   rfl
  have h3 : metR r.no l = false := by unfold metR; rw [e]
  rw [h1, h3]
  simp only [refPut, refLo_eq hp hn, refHi_eq hp hn, e]
  unfold confl conflM conflP conflN insR
  rw [e]
  cases (l.take (posR r.no l)).getLast? with
  | none => simp
  | some q => simp only []; cases contraB q r <;> simp
def refCmp (b : Int) (v : Wt) : List Rt → (Rt × Rt) × Bool
 | [] => (zeroS, false)
 | r :: t => if (accW b v r).2.2 = 361 then ((accW b v r).2.1, true) else refCmp b v t
theorem refCmp_eq {b : Int} {v : Wt} (hv : WOk b v) : ∀ (l : List Rt), (∀ r ∈ l, properB b v.pub r = true) → refCmp b v l = cmpGo v.rs l
 | [], _ => rfl
 | r :: t, h => by
  have hr := h r (by simp)
  have hs := acc_split hv hr
  unfold refCmp cmpGo
  rw [refCmp_eq hv t (fun x hx => h x (by simp [hx]))]
  cases hc : (confl v.rs r).2 with
  | true =>
   rw [hc, if_pos rfl] at hs
   rw [if_pos hs, if_pos rfl]
   unfold accW
   rw [if_pos (wchk_iff.2 hv), if_pos hr, if_pos hc]
  | false =>
   rw [hc, if_neg (by simp)] at hs
   rw [hs, if_neg (by decide), if_neg (by simp)]
theorem cmpW_ref (b : Int) (v w : Wt) : cmpW b v w = if wchk b v && wchk b w && decide (v.pub = w.pub) then refCmp b v w.rs else (zeroS, false) := by
 unfold cmpW
 split
 · rename_i h
   simp only [Bool.and_eq_true, decide_eq_true_iff] at h
   obtain ⟨⟨h1, h2⟩, h3⟩ := h
   rw [refCmp_eq (wchk_iff.1 h1) w.rs (fun r hr => by rw [h3]; exact (wchk_iff.1 h2).pr r hr)]
 · rfl
end Go.Dr

