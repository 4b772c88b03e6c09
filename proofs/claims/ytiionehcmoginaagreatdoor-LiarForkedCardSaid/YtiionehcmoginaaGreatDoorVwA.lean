/- views, plainly: heads, views, proofs; what the functions of chapter 32 compute; no program but the words for hashes and signatures views, plainly: what the laws of chapter 32 say of the functions views, plainly: stores that show beginnings of one list, or two lists -/
import Derived.Test.YtiionehcmoginaaGreatDoorSve
import Derived.Test.YtiionehcmoginaaGreatDoorStPlain
namespace Go.Vw
open Go.Proofs.YtiionehcmoginaaGreatDoor (chainD headB entryD)
open Go.Sto (Ent)

structure Hd where
  st : Int
  fo : Int
  no : Int
  ch : List Nat
  R : Int
  S : Int
structure V where
  st : Int
  fo : Int
  pub : Int
  ds : List (List Nat)
  hs : List Hd
structure Fk where
  a : Hd
  b : Hd
  ds : List (List Nat)

def zd : List Nat := List.replicate 32 0
def zeroH : Hd := ⟨0, 0, 0, zd, 0, 0⟩
def zeroV : V := ⟨0, 0, 0, [], []⟩
def zeroF : Fk := ⟨zeroH, zeroH, []⟩
def eqH (a b : Hd) : Bool := decide (a.st = b.st ∧ a.fo = b.fo ∧ a.no = b.no ∧ a.ch = b.ch ∧ a.R = b.R ∧ a.S = b.S)
def fitsB (h : Hd) (l : List (List Nat)) : Bool := decide (0 ≤ h.no ∧ h.no ≤ l.length) && decide (chainD h.fo (l.take h.no.toNat) = h.ch)
def oddP (l : List (List Nat)) (h : Hd) : Bool := decide (h.no ≤ l.length) && !fitsB h l
def oddI (hs : List Hd) (l : List (List Nat)) : Nat := hs.findIdx (oddP l)
def lastH (hs : List Hd) : Hd := hs.getLastD zeroH
def verH (pub : Int) (h : Hd) : Bool := headB pub h.st h.fo h.no h.ch h.R h.S
def ownsB (v : V) (h : Hd) : Bool := decide (h.st = v.st) && decide (h.fo = v.fo) && verH v.pub h
def headOk (v : V) (prev : Option Int) (h : Hd) : Bool := ownsB v h && (match prev with | none => true | some p => decide (p < h.no)) && fitsB h v.ds
def headsOk (v : V) : Option Int → List Hd → Bool
  | _, [] => true
  | p, h :: r => headOk v p h && headsOk v (some h.no) r
def rangeB (v : V) : Bool := decide (0 ≤ v.st ∧ v.st < 4) && decide (0 ≤ v.fo ∧ v.fo < 16) && decide ((lastH v.hs).no = v.ds.length)
def validB (v : V) : Bool := rangeB v && headsOk v none v.hs
/-- a proof with the first head that does not fit. -/
def accuse (v : V) (hs : List Hd) : Fk × Bool :=
  match hs[oddI hs v.ds]? with
  | some h => (⟨h, lastH v.hs, v.ds⟩, true)
  | none => (zeroF, false)
def newV (st fo pub : Int) : V := ⟨st, fo, pub, [], []⟩
def checkV (v : V) : Int := if validB v then 0 else 320
def entOk (x : Ent) : Bool := Sto.kindB x.kind && (if x.gone then decide (x.kind = 4) && decide (x.data.length = 0) else decide (x.dig = entryD x.kind x.data))
def insH (h : Hd) : List Hd → List Hd
  | [] => [h]
  | x :: r => if x.no < h.no then x :: insH h r else if x.no = h.no then x :: r else h :: x :: r
/-- what Accept makes of a view that it accepts, or the proof. -/
def accD (v : V) (d : List (List Nat)) (h : Hd) : V × Fk × Int :=
  if v.ds.length ≤ d.length then
    if (accuse ⟨v.st, v.fo, v.pub, d, [h]⟩ v.hs).2 then (v, (accuse ⟨v.st, v.fo, v.pub, d, [h]⟩ v.hs).1, 321) else (⟨v.st, v.fo, v.pub, d, insH h v.hs⟩, zeroF, 0)
  else
    if (accuse v [h]).2 then (v, (accuse v [h]).1, 321) else (⟨v.st, v.fo, v.pub, v.ds, insH h v.hs⟩, zeroF, 0)
def accOk (v : V) (l : List Ent) (h : Hd) : Bool := validB v && ownsB v h && decide (h.no = l.length) && l.all entOk && fitsB h (l.map (·.dig))
def accV (v : V) (l : List Ent) (h : Hd) : V × Fk × Int := if accOk v l h then accD v (l.map (·.dig)) h else (zeroV, zeroF, 320)
def cmpOk (a b : V) : Bool := validB a && validB b && decide (a.st = b.st) && decide (a.fo = b.fo) && decide (a.pub = b.pub)
def cmp2 (x y : V) : Fk × Bool := if (accuse x y.hs).2 then accuse x y.hs else accuse y x.hs
def cmpV (a b : V) : Fk × Bool := if cmpOk a b then (if a.ds.length < b.ds.length then cmp2 b a else cmp2 a b) else (zeroF, false)
def proveB (pub : Int) (f : Fk) : Bool := verH pub f.a && verH pub f.b && decide (f.a.st = f.b.st) && decide (f.a.fo = f.b.fo) && decide (f.a.no ≤ f.b.no) && decide (f.b.no = f.ds.length) && fitsB f.b f.ds && !fitsB f.a f.ds
def proveV (pub : Int) (f : Fk) : Int := if proveB pub f then 0 else 321
end Go.Vw
namespace Go.Vw
open Go.Proofs.YtiionehcmoginaaGreatDoor (chainD headB entryD)
open Go.Sto (Ent)

theorem headsOk_iff (v : V) : ∀ (l : List Hd) (p : Option Int), headsOk v p l = true ↔ (∀ h ∈ l, ownsB v h = true ∧ fitsB h v.ds = true) ∧ l.Pairwise (fun a b => a.no < b.no) ∧ ∀ q, p = some q → ∀ h ∈ l, q < h.no
  | [], p => by simp [headsOk]
  | h :: r, p => by
    unfold headsOk headOk
    rw [Bool.and_eq_true, Bool.and_eq_true, Bool.and_eq_true, headsOk_iff v r]
    simp only [List.mem_cons, forall_eq_or_imp, List.pairwise_cons]
    constructor
    · rintro ⟨⟨⟨h1, h2⟩, h3⟩, h4, h5, h6⟩
      refine ⟨⟨⟨h1, h3⟩, h4⟩, ⟨fun x hx => h6 _ rfl x hx, h5⟩, fun q hq => ?_⟩
      subst hq
      have h7 := of_decide_eq_true h2
      exact ⟨h7, fun x hx => Int.lt_trans h7 (h6 _ rfl x hx)⟩
    · rintro ⟨⟨⟨h1, h3⟩, h4⟩, ⟨h6, h5⟩, h7⟩
      refine ⟨⟨⟨h1, ?_⟩, h3⟩, h4, h5, fun q hq x hx => by cases hq; exact h6 x hx⟩
      cases p with
      | none => rfl
      | some q => exact decide_eq_true (h7 q rfl).1

structure Ok (v : V) : Prop where
  st : 0 ≤ v.st ∧ v.st < 4
  fo : 0 ≤ v.fo ∧ v.fo < 16
  last : (lastH v.hs).no = v.ds.length
  owns : ∀ h ∈ v.hs, ownsB v h = true
  fits : ∀ h ∈ v.hs, fitsB h v.ds = true
  up : v.hs.Pairwise (fun a b => a.no < b.no)
theorem validB_iff (v : V) : validB v = true ↔ Ok v := by
  unfold validB rangeB
  rw [Bool.and_eq_true, Bool.and_eq_true, Bool.and_eq_true, decide_eq_true_iff, decide_eq_true_iff, decide_eq_true_iff, headsOk_iff]
  constructor
  · rintro ⟨⟨⟨h1, h2⟩, h3⟩, h4, h5, _⟩
    exact ⟨h1, h2, h3, fun h hh => (h4 h hh).1, fun h hh => (h4 h hh).2, h5⟩
  · intro h
    exact ⟨⟨⟨h.st, h.fo⟩, h.last⟩, fun x hx => ⟨h.owns x hx, h.fits x hx⟩, h.up, fun q hq => by cases hq⟩

theorem lastH_cons (h : Hd) (r : List Hd) (hr : r ≠ []) : lastH (h :: r) = lastH r := by
  unfold lastH
  cases r with
  | nil => exact absurd rfl hr
  | cons a t => simp [List.getLastD]
theorem lastH_mem : ∀ {l : List Hd}, l ≠ [] → lastH l ∈ l
  | [], h => absurd rfl h
  | [x], _ => by simp [lastH]
  | x :: y :: r, _ => by
    rw [lastH_cons x (y :: r) (by simp)]
    exact List.mem_cons_of_mem _ (lastH_mem (by simp))
theorem lastH_max : ∀ {l : List Hd}, l.Pairwise (fun a b => a.no < b.no) → ∀ h ∈ l, h.no ≤ (lastH l).no
  | [], _, h, hh => by cases hh
  | [x], _, h, hh => by
    rw [List.mem_singleton] at hh
    subst hh
    exact Int.le_refl _
  | x :: y :: r, hp, h, hh => by
    rw [lastH_cons x (y :: r) (by simp)]
    rw [List.pairwise_cons] at hp
    rcases List.mem_cons.1 hh with rfl | hh
    · exact Int.le_of_lt (hp.1 _ (lastH_mem (by simp)))
    · exact lastH_max hp.2 h hh
theorem fits_no {h : Hd} {l : List (List Nat)} (hf : fitsB h l = true) : 0 ≤ h.no ∧ h.no ≤ l.length := by
  unfold fitsB at hf
  rw [Bool.and_eq_true] at hf
  exact of_decide_eq_true hf.1
theorem fits_ch {h : Hd} {l : List (List Nat)} (hf : fitsB h l = true) : chainD h.fo (l.take h.no.toNat) = h.ch := by
  unfold fitsB at hf
  rw [Bool.and_eq_true] at hf
  exact of_decide_eq_true hf.2
theorem fits_mk {h : Hd} {l : List (List Nat)} (h0 : 0 ≤ h.no) (h1 : h.no ≤ l.length) (h2 : chainD h.fo (l.take h.no.toNat) = h.ch) : fitsB h l = true := by
  unfold fitsB
  rw [Bool.and_eq_true]
  exact ⟨decide_eq_true ⟨h0, h1⟩, decide_eq_true h2⟩
theorem owns_iff {v : V} {h : Hd} : ownsB v h = true ↔ h.st = v.st ∧ h.fo = v.fo ∧ verH v.pub h = true := by
  unfold ownsB
  rw [Bool.and_eq_true, Bool.and_eq_true, decide_eq_true_iff, decide_eq_true_iff]
  exact and_assoc
theorem odd_iff {l : List (List Nat)} {h : Hd} : oddP l h = true ↔ h.no ≤ l.length ∧ fitsB h l = false := by
  unfold oddP
  rw [Bool.and_eq_true, decide_eq_true_iff, Bool.not_eq_true']

/-- what an accusation is. -/
theorem accuse_t {v : V} {hs : List Hd} (h : (accuse v hs).2 = true) : ∃ x ∈ hs, x.no ≤ v.ds.length ∧ fitsB x v.ds = false ∧ (accuse v hs).1 = ⟨x, lastH v.hs, v.ds⟩ := by
  unfold accuse at h ⊢
  cases hq : hs[oddI hs v.ds]? with
  | none => rw [hq] at h; cases h
  | some x =>
    have hl := (List.getElem?_eq_some_iff.1 hq).1
    have hx := (List.getElem?_eq_some_iff.1 hq).2
    have := List.findIdx_getElem (p := oddP v.ds) (w := hl)
    have he : hs[oddI hs v.ds] = x := hx
    unfold oddI at he
    rw [he, odd_iff] at this
    exact ⟨x, by rw [← hx]; exact List.getElem_mem hl, this.1, this.2, rfl⟩
theorem accuse_f {v : V} {hs : List Hd} (h : (accuse v hs).2 = false) : (accuse v hs).1 = zeroF ∧ ∀ x ∈ hs, x.no ≤ v.ds.length → fitsB x v.ds = true := by
  unfold accuse at h ⊢
  cases hq : hs[oddI hs v.ds]? with
  | some x => rw [hq] at h; cases h
  | none =>
    refine ⟨rfl, fun x hx hn => ?_⟩
    have h1 : hs.length ≤ hs.findIdx (oddP v.ds) := List.getElem?_eq_none_iff.1 hq
    cases hf : fitsB x v.ds with
    | true => rfl
    | false =>
      have := List.findIdx_lt_length_of_exists (p := oddP v.ds) ⟨x, hx, odd_iff.2 ⟨hn, hf⟩⟩
      omega
theorem accuse_none {v : V} {hs : List Hd} (h : ∀ x ∈ hs, x.no ≤ v.ds.length → fitsB x v.ds = true) : accuse v hs = (zeroF, false) := by
  cases hq : (accuse v hs).2 with
  | false => rw [← (accuse_f hq).1, ← hq]
  | true =>
    obtain ⟨x, hx, h1, h2, _⟩ := accuse_t hq
    rw [h x hx h1] at h2
    cases h2

/-! ### Prove accepts what is returned -/
theorem prove_mk {pub : Int} {f : Fk} (h1 : verH pub f.a = true) (h2 : verH pub f.b = true) (h3 : f.a.st = f.b.st) (h4 : f.a.fo = f.b.fo) (h5 : f.a.no ≤ f.b.no) (h6 : f.b.no = f.ds.length) (h7 : fitsB f.b f.ds = true) (h8 : fitsB f.a f.ds = false) : proveV pub f = 0 := by
  unfold proveV proveB
  rw [h1, h2, h7, h8, decide_eq_true h3, decide_eq_true h4, decide_eq_true h5, decide_eq_true h6]
  rfl

theorem accOk_iff {v : V} {l : List Ent} {h : Hd} : accOk v l h = true ↔ Ok v ∧ ownsB v h = true ∧ h.no = l.length ∧ (∀ x ∈ l, entOk x = true) ∧ fitsB h (l.map (·.dig)) = true := by
  unfold accOk
  rw [Bool.and_eq_true, Bool.and_eq_true, Bool.and_eq_true, Bool.and_eq_true, validB_iff, decide_eq_true_iff, List.all_eq_true]
  simp only [and_assoc]

theorem accuse_prove {v : V} {hs : List Hd} (hv : ∀ x ∈ v.hs, ownsB v x = true) (hl : (lastH v.hs).no = v.ds.length) (hf : ∀ x ∈ v.hs, x.no = v.ds.length → fitsB x v.ds = true) (hh : ∀ x ∈ hs, ownsB v x = true) (hne : v.hs ≠ []) (h : (accuse v hs).2 = true) : proveV v.pub (accuse v hs).1 = 0 := by
  obtain ⟨x, hx, h1, h2, h3⟩ := accuse_t h
  rw [h3]
  obtain ⟨a1, a2, a3⟩ := owns_iff.1 (hh x hx)
  obtain ⟨b1, b2, b3⟩ := owns_iff.1 (hv _ (lastH_mem hne))
  exact prove_mk a3 b3 (by rw [a1, b1]) (by rw [a2, b2]) (by rw [hl]; exact h1) hl (hf _ (lastH_mem hne) hl) h2

theorem Ok.hs_ne {v : V} (h : Ok v) (hn : v.ds ≠ []) : v.hs ≠ [] := by
  intro e
  have := h.last
  rw [e] at this
  have h0 : (lastH ([] : List Hd)).no = 0 := rfl
  have : 0 < v.ds.length := List.length_pos_iff.2 hn
  omega

theorem accuse_new {v : V} {d : List (List Nat)} {h : Hd} {n : Nat} (ho : ownsB v h = true) (hno : h.no = n) (hf : fitsB h d = true) (hh : ∀ x ∈ v.hs, ownsB v x = true) (hac : (accuse ⟨v.st, v.fo, v.pub, d, [h]⟩ v.hs).2 = true) (hn : d.length = n := by simp) : proveV v.pub (accuse ⟨v.st, v.fo, v.pub, d, [h]⟩ v.hs).1 = 0 := by
  obtain ⟨x, hx, h1, h2, h3⟩ := accuse_t hac
  rw [h3]
  obtain ⟨a1, a2, a3⟩ := owns_iff.1 (hh x hx)
  obtain ⟨b1, b2, b3⟩ := owns_iff.1 ho
  have hl : lastH [h] = h := rfl
  have hd : ((d.length : Nat) : Int) = h.no := by rw [hno, hn]
  refine prove_mk a3 ?_ ?_ ?_ ?_ ?_ ?_ h2 <;> simp only [hl]
  · exact b3
  · rw [a1, b1]
  · rw [a2, b2]
  · rw [← hd]; exact h1
  · exact hd.symm
  · exact hf
theorem acc_proofs {v : V} {l : List Ent} {h : Hd} : ((accV v l h).2.2 = 321 → proveV v.pub (accV v l h).2.1 = 0 ∧ (accV v l h).1 = v) ∧ ((accV v l h).2.2 ≠ 321 → (accV v l h).2.1 = zeroF) := by
  unfold accV
  split
  · rename_i hok
    obtain ⟨hv, ho, hno, he, hf⟩ := accOk_iff.1 hok
    unfold accD
    split
    · split
      · rename_i hac
        refine ⟨fun _ => ⟨?_, rfl⟩, fun hne => absurd rfl hne⟩
        exact accuse_new ho hno hf hv.owns hac
      · exact ⟨fun e => (by cases e), fun _ => rfl⟩
    · rename_i hlen
      split
      · rename_i hac
        refine ⟨fun _ => ⟨?_, rfl⟩, fun hne => absurd rfl hne⟩
        refine accuse_prove hv.owns hv.last (fun x hx _ => hv.fits x hx) (fun x hx => ?_) (hv.hs_ne ?_) hac
        · rw [List.mem_singleton] at hx; subst hx; exact ho
        · intro e; rw [e] at hlen; simp at hlen
      · exact ⟨fun e => (by cases e), fun _ => rfl⟩
  · exact ⟨fun e => (by cases e), fun _ => rfl⟩

theorem owns_of {a b : V} {x : Hd} (h1 : a.st = b.st) (h2 : a.fo = b.fo) (h3 : a.pub = b.pub) (h : ownsB a x = true) : ownsB b x = true := by
  rw [owns_iff] at h ⊢
  rw [← h1, ← h2, ← h3]
  exact h
theorem cmp2_prove {x y : V} (hx : Ok x) (hy : Ok y) (h1 : x.st = y.st) (h2 : x.fo = y.fo) (h3 : x.pub = y.pub) (hl : y.ds.length ≤ x.ds.length) (h : (cmp2 x y).2 = true) : proveV x.pub (cmp2 x y).1 = 0 := by
  have hyo : ∀ z ∈ y.hs, ownsB x z = true := fun z hz => owns_of h1.symm h2.symm h3.symm (hy.owns z hz)
  have hxo : ∀ z ∈ x.hs, ownsB y z = true := fun z hz => owns_of h1 h2 h3 (hx.owns z hz)
  unfold cmp2 at h ⊢
  split
  · rename_i hac
    refine accuse_prove hx.owns hx.last (fun z hz _ => hx.fits z hz) hyo ?_ hac
    intro e
    obtain ⟨z, hz, g1, g2, _⟩ := accuse_t hac
    have e1 : x.ds = [] := by
      have := hx.last
      rw [e] at this
      have h0 : (lastH ([] : List Hd)).no = 0 := rfl
      exact List.eq_nil_of_length_eq_zero (by omega)
    have e2 : y.ds = [] := List.eq_nil_of_length_eq_zero (by rw [e1] at hl; simpa using hl)
    have := hy.fits z hz
    rw [e2, ← e1, g2] at this
    cases this
  · rename_i hac
    rw [if_neg hac] at h
    rw [h3]
    refine accuse_prove hy.owns hy.last (fun z hz _ => hy.fits z hz) hxo ?_ h
    intro e
    obtain ⟨z, hz, g1, g2, _⟩ := accuse_t h
    have e1 : y.ds = [] := by
      have := hy.last
      rw [e] at this
      have h0 : (lastH ([] : List Hd)).no = 0 := rfl
      exact List.eq_nil_of_length_eq_zero (by omega)
    have h5 := hx.fits z hz
    have h6 := fits_no h5
    rw [e1] at g1 g2
    have h7 : z.no = 0 := by simp at g1; omega
    have h8 := fits_ch h5
    rw [h7] at h8
    have : fitsB z [] = true := fits_mk (by omega) (by simp [h7]) (by rw [h7]; simpa using h8)
    rw [g2] at this
    cases this
theorem cmpOk_iff {a b : V} : cmpOk a b = true ↔ Ok a ∧ Ok b ∧ a.st = b.st ∧ a.fo = b.fo ∧ a.pub = b.pub := by
  unfold cmpOk
  rw [Bool.and_eq_true, Bool.and_eq_true, Bool.and_eq_true, Bool.and_eq_true, validB_iff, validB_iff, decide_eq_true_iff, decide_eq_true_iff, decide_eq_true_iff]
  simp only [and_assoc]
theorem cmp_proofs {a b : V} (h : (cmpV a b).2 = true) : proveV a.pub (cmpV a b).1 = 0 := by
  unfold cmpV at h ⊢
  split
  · rename_i hok
    rw [if_pos hok] at h
    obtain ⟨ha, hb, h1, h2, h3⟩ := cmpOk_iff.1 hok
    split
    · rename_i hl
      rw [if_pos hl] at h
      rw [h3]
      exact cmp2_prove hb ha h1.symm h2.symm h3.symm (by omega) h
    · rename_i hl
      rw [if_neg hl] at h
      exact cmp2_prove ha hb h1 h2 h3 (by omega) h
  · rename_i hok
    rw [if_neg hok] at h
    cases h

/-! ### what is remembered -/
theorem mem_insH (h : Hd) : ∀ (l : List Hd) (x : Hd), x ∈ l → x ∈ insH h l
  | [], x, hx => by cases hx
  | y :: r, x, hx => by
    unfold insH
    split
    · rcases List.mem_cons.1 hx with rfl | hx
      · exact List.mem_cons_self ..
      · exact List.mem_cons_of_mem _ (mem_insH h r x hx)
    · split
      · exact hx
      · exact List.mem_cons_of_mem _ hx
theorem insH_met (h : Hd) : ∀ (l : List Hd), h ∈ insH h l ∨ ∃ x ∈ l, x.no = h.no
  | [] => .inl (by simp [insH])
  | y :: r => by
    unfold insH
    split
    · rcases insH_met h r with h1 | ⟨x, hx, he⟩
      · exact .inl (List.mem_cons_of_mem _ h1)
      · exact .inr ⟨x, List.mem_cons_of_mem _ hx, he⟩
    · split
      · rename_i h2; exact .inr ⟨y, List.mem_cons_self .., h2⟩
      · exact .inl (List.mem_cons_self ..)
theorem insH_mem (h : Hd) : ∀ (l : List Hd) (x : Hd), x ∈ insH h l → x = h ∨ x ∈ l
  | [], x, hx => by simp [insH] at hx; exact .inl hx
  | y :: r, x, hx => by
    unfold insH at hx
    split at hx
    · rcases List.mem_cons.1 hx with rfl | hx
      · exact .inr (List.mem_cons_self ..)
      · rcases insH_mem h r x hx with rfl | hx
        · exact .inl rfl
        · exact .inr (List.mem_cons_of_mem _ hx)
    · split at hx
      · exact .inr hx
      · rcases List.mem_cons.1 hx with rfl | hx
        · exact .inl rfl
        · exact .inr hx
theorem insH_up (h : Hd) : ∀ {l : List Hd}, l.Pairwise (fun a b => a.no < b.no) → (insH h l).Pairwise (fun a b => a.no < b.no)
  | [], _ => by simp [insH]
  | y :: r, hp => by
    have hp' := hp
    rw [List.pairwise_cons] at hp
    unfold insH
    split
    · rename_i h1
      rw [List.pairwise_cons]
      refine ⟨fun x hx => ?_, insH_up h hp.2⟩
      rcases insH_mem h r x hx with rfl | hx
      · exact h1
      · exact hp.1 x hx
    · split
      · exact hp'
      · rename_i h1 h2
        rw [List.pairwise_cons]
        refine ⟨fun x hx => ?_, hp'⟩
        rcases List.mem_cons.1 hx with rfl | hx
        · omega
        · have := hp.1 x hx; omega
theorem insH_ne (h : Hd) (l : List Hd) : insH h l ≠ [] := by
  cases l with
  | nil => simp [insH]
  | cons y r => unfold insH; split <;> (try split) <;> simp
/-- the last one's number, when none is above m and one has it. -/
theorem last_no {l : List Hd} {m : Int} (hp : l.Pairwise (fun a b => a.no < b.no)) (h1 : ∀ x ∈ l, x.no ≤ m) (h2 : ∃ x ∈ l, x.no = m) : (lastH l).no = m := by
  obtain ⟨x, hx, he⟩ := h2
  have a := lastH_max hp x hx
  have b := h1 _ (lastH_mem (fun e => by rw [e] at hx; cases hx))
  omega
theorem insH_has (h : Hd) (l : List Hd) : ∃ x ∈ insH h l, x.no = h.no := by
  rcases insH_met h l with h1 | ⟨x, hx, he⟩
  · exact ⟨h, h1, rfl⟩
  · exact ⟨x, mem_insH h l x hx, he⟩

theorem acc_ok {v : V} {l : List Ent} {h : Hd} (hq : (accV v l h).2.2 = 0) : Ok (accV v l h).1 ∧ (accV v l h).1.ds = (if v.ds.length ≤ l.length then l.map (·.dig) else v.ds) ∧ (accV v l h).1.hs = insH h v.hs ∧ (accV v l h).1.st = v.st ∧ (accV v l h).1.fo = v.fo ∧ (accV v l h).1.pub = v.pub := by
  unfold accV at hq ⊢
  split
  · rename_i hok
    rw [if_pos hok] at hq
    obtain ⟨hv, ho, hno, he, hf⟩ := accOk_iff.1 hok
    unfold accD at hq ⊢
    split
    · rename_i hlen
      rw [if_pos hlen] at hq
      split
      · rename_i hac
        rw [if_pos hac] at hq
        cases hq
      · rename_i hac
        have hac' := accuse_f (Bool.eq_false_iff.2 hac)
        have hlen' : v.ds.length ≤ l.length := by simpa using hlen
        rw [if_pos hlen']
        refine ⟨⟨hv.st, hv.fo, ?_, ?_, ?_, insH_up h hv.up⟩, rfl, rfl, rfl, rfl, rfl⟩
        · show (lastH (insH h v.hs)).no = (l.map (·.dig)).length
          rw [List.length_map, ← hno]
          refine last_no (insH_up h hv.up) (fun x hx => ?_) (insH_has h _)
          rcases insH_mem h _ x hx with rfl | hx
          · exact Int.le_refl _
          · have := lastH_max hv.up x hx
            have := hv.last
            omega
        · intro x hx
          rcases insH_mem h _ x hx with rfl | hx
          · exact ho
          · exact hv.owns x hx
        · intro x hx
          rcases insH_mem h _ x hx with rfl | hx
          · exact hf
          · refine hac'.2 x hx ?_
            have := lastH_max hv.up x hx
            have := hv.last
            show x.no ≤ ((l.map (·.dig)).length : Int)
            rw [List.length_map]; omega
    · rename_i hlen
      rw [if_neg hlen] at hq
      split
      · rename_i hac
        rw [if_pos hac] at hq
        cases hq
      · rename_i hac
        have hac' := accuse_f (Bool.eq_false_iff.2 hac)
        have hlen' : ¬ v.ds.length ≤ l.length := by simpa using hlen
        rw [if_neg hlen']
        refine ⟨⟨hv.st, hv.fo, ?_, ?_, ?_, insH_up h hv.up⟩, rfl, rfl, rfl, rfl, rfl⟩
        · show (lastH (insH h v.hs)).no = v.ds.length
          refine last_no (insH_up h hv.up) (fun x hx => ?_) ?_
          · rcases insH_mem h _ x hx with rfl | hx
            · omega
            · have := lastH_max hv.up x hx
              have := hv.last
              omega
          · have hne : v.hs ≠ [] := hv.hs_ne (fun e => by rw [e] at hlen'; simp at hlen')
            exact ⟨_, mem_insH h _ _ (lastH_mem hne), hv.last⟩
        · intro x hx
          rcases insH_mem h _ x hx with rfl | hx
          · exact ho
          · exact hv.owns x hx
        · intro x hx
          rcases insH_mem h _ x hx with rfl | hx
          · exact hac'.2 x (List.mem_singleton.2 rfl) (by omega)
          · exact hv.fits x hx
  · rename_i hok
    rw [if_neg hok] at hq
    cases hq
theorem acc_err {v : V} {l : List Ent} {h : Hd} (hq : (accV v l h).2.2 ≠ 0) : ((accV v l h).2.2 = 320 ∧ (accV v l h).1 = zeroV) ∨ (accV v l h).2.2 = 321 := by
  unfold accV at hq ⊢
  split
  · rename_i hok
    rw [if_pos hok] at hq
    unfold accD at hq ⊢
    split
    · split
      · exact .inr rfl
      · rename_i h1 h2; rw [if_pos h1, if_neg h2] at hq; exact absurd rfl hq
    · split
      · exact .inr rfl
      · rename_i h1 h2; rw [if_neg h1, if_neg h2] at hq; exact absurd rfl hq
  · exact .inl ⟨rfl, rfl⟩
end Go.Vw
namespace Go.Vw
open Go.Proofs.YtiionehcmoginaaGreatDoor (chainD headB entryD)
open Go.Sto (Ent)

/-- a head that is signed for a list of digests. -/
structure Sg (id fo pub : Int) (ds : List (List Nat)) (h : Hd) : Prop where
  est : h.st = id
  efo : h.fo = fo
  no : h.no = ds.length
  ch : h.ch = chainD fo ds
  ver : verH pub h = true
/-- what a device keeps that was shown beginnings of one list. -/
structure Hon (id fo pub : Int) (D : List (List Nat)) (m : Nat) (v : V) : Prop where
  ok : Ok v
  est : v.st = id
  efo : v.fo = fo
  epub : v.pub = pub
  ds : v.ds = D.take m
  le : m ≤ D.length
  hs : ∀ h ∈ v.hs, h.ch = chainD fo (D.take h.no.toNat)
theorem ok_new {id fo pub : Int} (h1 : 0 ≤ id ∧ id < 4) (h2 : 0 ≤ fo ∧ fo < 16) : Ok (newV id fo pub) :=
  ⟨h1, h2, rfl, (fun _ h => by cases h), (fun _ h => by cases h), List.Pairwise.nil⟩
theorem hon_new {id fo pub : Int} {D : List (List Nat)} (h1 : 0 ≤ id ∧ id < 4) (h2 : 0 ≤ fo ∧ fo < 16) : Hon id fo pub D 0 (newV id fo pub) :=
  ⟨ok_new h1 h2, rfl, rfl, rfl, rfl, Nat.zero_le _, fun _ h => by cases h⟩
section
variable {id fo pub : Int} {D : List (List Nat)} {m n : Nat} {v w : V} {h : Hd} {l : List Ent}
theorem Sg.owns (hs : Sg id fo pub D h) (h1 : v.st = id) (h2 : v.fo = fo) (h3 : v.pub = pub) : ownsB v h = true := owns_iff.2 ⟨by rw [hs.est, h1], by rw [hs.efo, h2], by rw [h3]; exact hs.ver⟩
theorem Sg.fits (hs : Sg id fo pub D h) : fitsB h D = true := fits_mk (by rw [hs.no]; omega) (by rw [hs.no]; exact Int.le_refl _) (by rw [hs.no, hs.efo, Int.toNat_natCast, List.take_length, hs.ch])
theorem hon_fits (hf : h.fo = fo) (h0 : 0 ≤ h.no) (hc : h.ch = chainD fo (D.take h.no.toNat)) (hm : h.no ≤ ((D.take m).length : Nat)) : fitsB h (D.take m) = true := by
  refine fits_mk h0 hm ?_
  have hl : h.no.toNat ≤ m := by rw [List.length_take] at hm; omega
  rw [hf, List.take_take, Nat.min_eq_left hl, hc]
theorem hon_step (H : Hon id fo pub D m v) (hn : n ≤ D.length) (hl : l.map (·.dig) = D.take n) (he : ∀ x ∈ l, entOk x = true) (hs : Sg id fo pub (D.take n) h) : ∃ v', accV v l h = (v', zeroF, 0) ∧ Hon id fo pub D (max m n) v' := by
  have hno : h.no = n := by rw [hs.no, List.length_take, Nat.min_eq_left hn]
  have hll : l.length = n := by have := congrArg List.length hl; rw [List.length_map, List.length_take, Nat.min_eq_left hn] at this; exact this
  have hok : accOk v l h = true := accOk_iff.2 ⟨H.ok, hs.owns H.est H.efo H.epub, by rw [hno, hll], he, by rw [hl]; exact hs.fits⟩
  have hdl : v.ds.length = m := by rw [H.ds, List.length_take, Nat.min_eq_left H.le]
  have hch : h.ch = chainD fo (D.take h.no.toNat) := by rw [hs.ch, hno, Int.toNat_natCast]
  have hq : accV v l h = (⟨v.st, v.fo, v.pub, D.take (max m n), insH h v.hs⟩, zeroF, 0) := by
    unfold accV
    rw [if_pos hok]
    unfold accD
    rw [List.length_map, hll, hdl]
    by_cases hmn : m ≤ n
    · rw [if_pos hmn, accuse_none (fun x hx hxn => ?_), hl, Nat.max_eq_right hmn]
      · rfl
      · have hxn' : x.no ≤ ((l.map (·.dig)).length : Int) := hxn
        show fitsB x (l.map (·.dig)) = true
        rw [hl] at hxn' ⊢
        exact hon_fits (by rw [(owns_iff.1 (H.ok.owns x hx)).2.1, H.efo]) (fits_no (H.ok.fits x hx)).1 (H.hs x hx) hxn'
    · rw [if_neg hmn, accuse_none (fun x hx hxn => ?_), H.ds, Nat.max_eq_left (by omega)]
      · rfl
      · rw [List.mem_singleton] at hx
        subst hx
        rw [H.ds] at hxn ⊢
        exact hon_fits hs.efo (by omega) hch hxn
  have ha := acc_ok (v := v) (l := l) (h := h) (by rw [hq])
  rw [hq] at ha
  refine ⟨_, hq, ha.1, H.est, H.efo, H.epub, rfl, by have := H.le; omega, fun x hx => ?_⟩
  rcases insH_mem h _ x hx with rfl | hx
  · exact hch
  · exact H.hs x hx
theorem hon_acc (H : Hon id fo pub D m v) (G : Hon id fo pub D n w) : accuse v w.hs = (zeroF, false) := accuse_none fun x hx hxn => by
  rw [H.ds] at hxn ⊢
  exact hon_fits (by rw [(owns_iff.1 (G.ok.owns x hx)).2.1, G.efo]) (fits_no (G.ok.fits x hx)).1 (G.hs x hx) hxn
theorem hon_cmp (H : Hon id fo pub D m v) (G : Hon id fo pub D n w) : cmpV v w = (zeroF, false) := by
  unfold cmpV cmp2
  rw [hon_acc H G, hon_acc G H]
  simp

/-! ### two lists -/
theorem acc_new {ds : List (List Nat)} (h1 : 0 ≤ id ∧ id < 4) (h2 : 0 ≤ fo ∧ fo < 16) (hl : l.map (·.dig) = ds) (he : ∀ x ∈ l, entOk x = true) (hs : Sg id fo pub ds h) : accV (newV id fo pub) l h = (⟨id, fo, pub, ds, [h]⟩, zeroF, 0) := by
  have hll : l.length = ds.length := by rw [← hl, List.length_map]
  have hok : accOk (newV id fo pub) l h = true := accOk_iff.2 ⟨ok_new h1 h2, hs.owns rfl rfl rfl, by rw [hs.no, hll], he, by rw [hl]; exact hs.fits⟩
  unfold accV
  rw [if_pos hok]
  unfold accD
  rw [if_pos (show (newV id fo pub).ds.length ≤ _ from Nat.zero_le _), accuse_none (fun x hx => by cases hx), hl]
  rfl
theorem ok_one {ds : List (List Nat)} (h1 : 0 ≤ id ∧ id < 4) (h2 : 0 ≤ fo ∧ fo < 16) (hs : Sg id fo pub ds h) : Ok ⟨id, fo, pub, ds, [h]⟩ :=
  ⟨h1, h2, hs.no, (fun x hx => by rw [List.mem_singleton] at hx; subst hx; exact hs.owns rfl rfl rfl), (fun x hx => by rw [List.mem_singleton] at hx; subst hx; exact hs.fits), List.pairwise_singleton _ _⟩
/-- do two lists' chains differ at the length of the shorter one? -/
def differ (fo : Int) (p q : List (List Nat)) : Bool := decide (chainD fo (p.take (min p.length q.length)) ≠ chainD fo (q.take (min p.length q.length)))
theorem differ_symm (p q : List (List Nat)) : differ fo p q = differ fo q p := by
  unfold differ
  rw [Nat.min_comm]
  exact decide_eq_decide.2 ⟨fun h e => h e.symm, fun h e => h e.symm⟩
theorem fits_other {p q : List (List Nat)} (hs : Sg id fo pub p h) (hl : p.length ≤ q.length) : fitsB h q = !differ fo p q := by
  have hm : min p.length q.length = p.length := Nat.min_eq_left hl
  unfold fitsB differ
  rw [hm, List.take_length, hs.no, Int.toNat_natCast, hs.efo, hs.ch, decide_eq_true ⟨by omega, by omega⟩, Bool.true_and]
  by_cases he : chainD fo p = chainD fo (q.take p.length)
  · simp [he]
  · have he' : ¬ chainD fo (q.take p.length) = chainD fo p := fun e => he e.symm
    simp [he, he']
theorem accuse_one {vw : V} {x : Hd} (hx : x.no ≤ vw.ds.length) : (accuse vw [x]).2 = !fitsB x vw.ds := by
  cases hf : fitsB x vw.ds with
  | true => rw [accuse_none (fun y hy _ => by rw [List.mem_singleton] at hy; subst hy; exact hf)]; rfl
  | false =>
    cases hq : (accuse vw [x]).2 with
    | true => rfl
    | false =>
      have := (accuse_f hq).2 x (List.mem_singleton.2 rfl) hx
      rw [hf] at this
      cases this
theorem accuse_long {vw : V} {x : Hd} (hx : (vw.ds.length : Int) < x.no) : accuse vw [x] = (zeroF, false) := accuse_none (fun y hy hn => by rw [List.mem_singleton] at hy; subst hy; omega)
theorem cmp_two {k : Hd} {p q : List (List Nat)} (h1 : 0 ≤ id ∧ id < 4) (h2 : 0 ≤ fo ∧ fo < 16) (hs : Sg id fo pub p h) (ks : Sg id fo pub q k) : (cmpV ⟨id, fo, pub, p, [h]⟩ ⟨id, fo, pub, q, [k]⟩).2 = differ fo p q := by
  have hok : cmpOk ⟨id, fo, pub, p, [h]⟩ ⟨id, fo, pub, q, [k]⟩ = true := cmpOk_iff.2 ⟨ok_one h1 h2 hs, ok_one h1 h2 ks, rfl, rfl, rfl⟩
  have key : ∀ {x y : Hd} {a b : List (List Nat)}, Sg id fo pub a x → Sg id fo pub b y → b.length ≤ a.length → (cmp2 ⟨id, fo, pub, a, [x]⟩ ⟨id, fo, pub, b, [y]⟩).2 = differ fo b a := by
    intro x y a b hx hy hl
    unfold cmp2
    have e1 : (accuse ⟨id, fo, pub, a, [x]⟩ [y]).2 = differ fo b a := by
      rw [accuse_one (by show y.no ≤ (a.length : Int); rw [hy.no]; omega)]
      show (!fitsB y a) = _
      rw [fits_other hy hl, Bool.not_not]
    cases hd : differ fo b a with
    | true => rw [if_pos (by rw [e1, hd]), e1, hd]
    | false =>
      rw [if_neg (by rw [e1, hd]; simp)]
      by_cases hl2 : a.length = b.length
      · have e2 : (accuse ⟨id, fo, pub, b, [y]⟩ [x]).2 = differ fo a b := by
          rw [accuse_one (by show x.no ≤ (b.length : Int); rw [hx.no]; omega)]
          show (!fitsB x b) = _
          rw [fits_other hx (by omega), Bool.not_not]
        rw [e2, differ_symm, hd]
      · rw [accuse_long (by show (b.length : Int) < x.no; rw [hx.no]; omega)]
  unfold cmpV
  rw [if_pos hok]
  by_cases hl : p.length < q.length
  · rw [if_pos hl]
    exact (key ks hs (by omega))
  · rw [if_neg hl]
    rw [differ_symm]
    exact key hs ks (by omega)
theorem acc_two {k : Hd} {p q : List (List Nat)} (h1 : 0 ≤ id ∧ id < 4) (h2 : 0 ≤ fo ∧ fo < 16) (hs : Sg id fo pub p h) (ks : Sg id fo pub q k) (hl : l.map (·.dig) = q) (he : ∀ x ∈ l, entOk x = true) : (accV ⟨id, fo, pub, p, [h]⟩ l k).2.2 = if differ fo p q then 321 else 0 := by
  have hll : l.length = q.length := by rw [← hl, List.length_map]
  have hok : accOk ⟨id, fo, pub, p, [h]⟩ l k = true := accOk_iff.2 ⟨ok_one h1 h2 hs, ks.owns rfl rfl rfl, by rw [ks.no, hll], he, by rw [hl]; exact ks.fits⟩
  unfold accV
  rw [if_pos hok, hl]
  unfold accD
  simp only []
  by_cases hpq : p.length ≤ q.length
  · rw [if_pos hpq]
    have e : (accuse ⟨id, fo, pub, q, [k]⟩ [h]).2 = differ fo p q := by
      rw [accuse_one (by show h.no ≤ (q.length : Int); rw [hs.no]; omega)]
      show (!fitsB h q) = _
      rw [fits_other hs hpq, Bool.not_not]
    rw [e]
    cases differ fo p q <;> rfl
  · rw [if_neg hpq]
    have e : (accuse ⟨id, fo, pub, p, [h]⟩ [k]).2 = differ fo p q := by
      rw [accuse_one (by show k.no ≤ (p.length : Int); rw [ks.no]; omega)]
      show (!fitsB k p) = _
      rw [fits_other ks (by omega), Bool.not_not, differ_symm]
    rw [e]
    cases differ fo p q <;> rfl

/-! ### one list only -/
theorem prove_own {k : Hd} (hm : m ≤ D.length) (hn : n ≤ D.length) (hs : Sg id fo pub (D.take m) h) (ks : Sg id fo pub (D.take n) k) : proveV pub ⟨h, k, D.take n⟩ = 321 := by
  unfold proveV
  rw [if_neg]
  intro e
  unfold proveB at e
  simp only [Bool.and_eq_true, decide_eq_true_iff, Bool.not_eq_true'] at e
  obtain ⟨⟨⟨_, h5⟩, _⟩, h8⟩ := e
  have hno : h.no = m := by rw [hs.no, List.length_take, Nat.min_eq_left hm]
  have hkn : k.no = n := by rw [ks.no, List.length_take, Nat.min_eq_left hn]
  have := hon_fits (m := n) (D := D) (h := h) hs.efo (by omega) (by rw [hs.ch, hno, Int.toNat_natCast]) (by rw [List.length_take, Nat.min_eq_left hn]; omega)
  rw [h8] at this
  cases this
theorem prove_other {k : Hd} {d own : List (List Nat)} (ks : Sg id fo pub own k) (hp : proveV pub ⟨h, k, d⟩ = 0) : d.length = own.length ∧ chainD fo d = chainD fo own := by
  have e : proveB pub ⟨h, k, d⟩ = true := by
    cases hb : proveB pub ⟨h, k, d⟩ with
    | true => rfl
    | false => unfold proveV at hp; rw [hb] at hp; cases hp
  unfold proveB at e
  simp only [Bool.and_eq_true, decide_eq_true_iff, Bool.not_eq_true'] at e
  obtain ⟨⟨⟨⟨⟨_, _⟩, _⟩, h6⟩, h7⟩, _⟩ := e
  have hno := ks.no
  have hl : d.length = own.length := by omega
  refine ⟨hl, ?_⟩
  have := fits_ch h7
  rw [hno, Int.toNat_natCast, ← hl, List.take_length, ks.efo, ks.ch] at this
  exact this
end
end Go.Vw
