/- views, plainly: heads, views, proofs; what the functions of chapter 32 compute; no program but the words for hashes and signatures views, plainly: what the laws of chapter 32 say of the functions views, plainly: stores that show beginnings of one list, or two lists -/
import Derived.Test.YtiionehcmoginaaGreatDoorSve
import Derived.Test.YtiionehcmoginaaGreatDoorStPlain
namespace Go.Vw
open Go.Proofs.YtiionehcmoginaaGreatDoor (chainD headB entryD)
open Go.Sto (Ent)

structure Hd where
 st : Int
 fo : Int
 no : Int
 ch : List Nat
 R : Int
 S : Int
structure V where
 st : Int
 fo : Int
 pub : Int
 ds : List (List Nat)
 hs : List Hd
structure Fk where
 a : Hd
 b : Hd
 ds : List (List Nat)

def zd : List Nat := List.replicate 32 0
def zeroH : Hd := ⟨0, 0, 0, zd, 0, 0⟩
def zeroV : V := ⟨0, 0, 0, [], []⟩
def zeroF : Fk := ⟨zeroH, zeroH, []⟩
def eqH (a b : Hd) : Bool := decide (a.st = b.st ∧ a.fo = b.fo ∧ a.no = b.no ∧ a.ch = b.ch ∧ a.R = b.R ∧ a.S = b.S)
def fitsB (h : Hd) (l : List (List Nat)) : Bool := decide (0 ≤ h.no ∧ h.no ≤ l.length) && decide (chainD h.fo (l.take h.no.toNat) = h.ch)
def oddP (l : List (List Nat)) (h : Hd) : Bool := decide (h.no ≤ l.length) && !fitsB h l
def oddI (hs : List Hd) (l : List (List Nat)) : Nat := hs.findIdx (oddP l)
def lastH (hs : List Hd) : Hd := hs.getLastD zeroH
def verH (pub : Int) (h : Hd) : Bool := headB pub h.st h.fo h.no h.ch h.R h.S
def ownsB (v : V) (h : Hd) : Bool := decide (h.st = v.st) && decide (h.fo = v.fo) && verH v.pub h
def headOk (v : V) (prev : Option Int) (h : Hd) : Bool := ownsB v h && (match prev with | none => true | some p => decide (p < h.no)) && fitsB h v.ds
def headsOk (v : V) : Option Int → List Hd → Bool
 | _, [] => true
 | p, h :: r => headOk v p h && headsOk v (some h.no) r
def rangeB (v : V) : Bool := decide (0 ≤ v.st ∧ v.st < 4) && decide (0 ≤ v.fo ∧ v.fo < 16) && decide ((lastH v.hs).no = v.ds.length)
def validB (v : V) : Bool := rangeB v && headsOk v none v.hs
def accuse (v : V) (hs : List Hd) : Fk × Bool :=
 match hs[oddI hs v.ds]? with
 | some h => (⟨h, lastH v.hs, v.ds⟩, true)
 | none => (zeroF, false)
def newV (st fo pub : Int) : V := ⟨st, fo, pub, [], []⟩
def checkV (v : V) : Int := if validB v then 0 else 320
def entOk (x : Ent) : Bool := Sto.kindB x.kind && (if x.gone then decide (x.kind = 4) && decide (x.data.length = 0) else decide (x.dig = entryD x.kind x.data))
def insH (h : Hd) : List Hd → List Hd
 | [] => [h]
 | x :: r => if x.no < h.no then x :: insH h r else if x.no = h.no then x :: r else h :: x :: r
def accD (v : V) (d : List (List Nat)) (h : Hd) : V × Fk × Int :=
 if v.ds.length ≤ d.length then
  if (accuse ⟨v.st, v.fo, v.pub, d, [h]⟩ v.hs).2 then (v, (accuse ⟨v.st, v.fo, v.pub, d, [h]⟩ v.hs).1, 321) else (⟨v.st, v.fo, v.pub, d, insH h v.hs⟩, zeroF, 0)
 else
  if (accuse v [h]).2 then (v, (accuse v [h]).1, 321) else (⟨v.st, v.fo, v.pub, v.ds, insH h v.hs⟩, zeroF, 0)
def accOk (v : V) (l : List Ent) (h : Hd) : Bool := validB v && ownsB v h && decide (h.no = l.length) && l.all entOk && fitsB h (l.map (·.dig))
def accV (v : V) (l : List Ent) (h : Hd) : V × Fk × Int := if accOk v l h then accD v (l.map (·.dig)) h else (zeroV, zeroF, 320)
def cmpOk (a b : V) : Bool := validB a && validB b && decide (a.st = b.st) && decide (a.fo = b.fo) && decide (a.pub = b.pub)
def cmp2 (x y : V) : Fk × Bool := if (accuse x y.hs).2 then accuse x y.hs else accuse y x.hs
def cmpV (a b : V) : Fk × Bool := if cmpOk a b then (if a.ds.length < b.ds.length then cmp2 b a else cmp2 a b) else (zeroF, false)
def proveB (pub : Int) (f : Fk) : Bool := verH pub f.a && verH pub f.b && decide (f.a.st = f.b.st) && decide (f.a.fo = f.b.fo) && decide (f.a.no ≤ f.b.no) && decide (f.b.no = f.ds.length) && fitsB f.b f.ds && !fitsB f.a f.ds
def proveV (pub : Int) (f : Fk) : Int := if proveB pub f then 0 else 321
end Go.Vw
namespace Go.Vw
open Go.Proofs.YtiionehcmoginaaGreatDoor (chainD headB entryD)
open Go.Sto (Ent)

theorem headsOk_iff (v : V) : ∀ (l : List Hd) (p : Option Int), headsOk v p l = true ↔ (∀ h ∈ l, ownsB v h = true ∧ fitsB h v.ds = true) ∧ l.Pairwise (fun a b => a.no < b.no) ∧ ∀ q, p = some q → ∀ h ∈ l, q < h.no
 | [], p => by simp [headsOk]
 | h :: r, p => by
  unfold headsOk headOk
  rw [Bool.and_eq_true, Bool.and_eq_true, Bool.and_eq_true, headsOk_iff v r]
  simp only [List.mem_cons, forall_eq_or_imp, List.pairwise_cons]
  constructor
  · rintro ⟨⟨⟨h1, h2⟩, h3⟩, h4, h5, h6⟩
    refine ⟨⟨⟨h1, h3⟩, h4⟩, ⟨fun x hx => h6 _ rfl x hx, h5⟩, fun q hq => ?_⟩
    subst hq
    have h7 := of_decide_eq_true h2
    exact ⟨h7, fun x hx => Int.lt_trans h7 (h6 _ rfl x hx)⟩
  · rintro ⟨⟨⟨h1, h3⟩, h4⟩, ⟨h6, h5⟩, h7⟩
    refine ⟨⟨⟨h1, ?_⟩, h3⟩, h4, h5, fun q hq x hx => by cases hq; exact h6 x hx⟩
    cases p with
    | none => rfl
    | some q => exact decide_eq_true (h7 q rfl).1

structure Ok (v : V) : Prop where
 st : 0 ≤ v.st ∧ v.st < 4
 fo : 0 ≤ v.fo ∧ v.fo < 16
 last : (lastH v.hs).no = v.ds.length
 owns : ∀ h ∈ v.hs, ownsB v h = true
 fits : ∀ h ∈ v.hs, fitsB h v.ds = true
 up : v.hs.Pairwise (fun a b => a.no < b.no)
theorem validB_iff (v : V) : validB v = true ↔ Ok v := by
 unfold validB rangeB
 rw [Bool.and_eq_true, Bool.and_eq_true, Bool.and_eq_true, decide_eq_true_iff, decide_eq_true_iff, decide_eq_true_iff, headsOk_iff]
 constructor
 · rintro ⟨⟨⟨h1, h2⟩, h3⟩, h4, h5, _⟩
   exact ⟨h1, h2, h3, fun h hh => (h4 h hh).1, fun h hh => (h4 h hh).2, h5⟩
 · intro h
   exact ⟨⟨⟨h.st, h.fo⟩, h.last⟩, fun x hx => ⟨h.owns x hx, h.fits x hx⟩, h.up, fun q hq => by cases hq⟩

theorem lastH_cons (h : Hd) (r : List Hd) (hr : r ≠ []) : lastH (h :: r) = lastH r := by
 unfold lastH
 cases r with
 | nil => exact absurd rfl hr
 | cons a t => simp [List.getLastD]
theorem lastH_mem : ∀ {l : List Hd}, l ≠ [] → lastH l ∈ l
 | [], h => absurd rfl h
 | [x], _ => by simp [lastH]
 | x :: y :: r, _ => by
  rw [lastH_cons x (y :: r) (by simp)]
  exact List.mem_cons_of_mem _ (lastH_mem (by simp))
theorem fits_no {h : Hd} {l : List (List Nat)} (hf : fitsB h l = true) : 0 ≤ h.no ∧ h.no ≤ l.length := by
 unfold fitsB at hf
 rw [Bool.and_eq_true] at hf
 exact of_decide_eq_true hf.1
theorem fits_ch {h : Hd} {l : List (List Nat)} (hf : fitsB h l = true) : chainD h.fo (l.take h.no.toNat) = h.ch := by
 unfold fitsB at hf
 rw [Bool.and_eq_true] at hf
 exact of_decide_eq_true hf.2
theorem fits_mk {h : Hd} {l : List (List Nat)} (h0 : 0 ≤ h.no) (h1 : h.no ≤ l.length) (h2 : chainD h.fo (l.take h.no.toNat) = h.ch) : fitsB h l = true := by
 unfold fitsB
 rw [Bool.and_eq_true]
 exact ⟨decide_eq_true ⟨h0, h1⟩, decide_eq_true h2⟩
theorem owns_iff {v : V} {h : Hd} : ownsB v h = true ↔ h.st = v.st ∧ h.fo = v.fo ∧ verH v.pub h = true := by
 unfold ownsB
 rw [Bool.and_eq_true, Bool.and_eq_true, decide_eq_true_iff, decide_eq_true_iff]
 exact and_assoc
theorem odd_iff {l : List (List Nat)} {h : Hd} : oddP l h = true ↔ h.no ≤ l.length ∧ fitsB h l = false := by
 unfold oddP
 rw [Bool.and_eq_true, decide_eq_true_iff, Bool.not_eq_true']

theorem accuse_t {v : V} {hs : List Hd} (h : (accuse v hs).2 = true) : ∃ x ∈ hs, x.no ≤ v.ds.length ∧ fitsB x v.ds = false ∧ (accuse v hs).1 = ⟨x, lastH v.hs, v.ds⟩ := by
 unfold accuse at h ⊢
 cases hq : hs[oddI hs v.ds]? with
 | none => rw [hq] at h; cases h
 | some x =>
  have hl := (List.getElem?_eq_some_iff.1 hq).1
  have hx := (List.getElem?_eq_some_iff.1 hq).2
  have := List.findIdx_getElem (p := oddP v.ds) (w := hl)
  have he : hs[oddI hs v.ds] = x := hx
  unfold oddI at he
  rw [he, odd_iff] at this
  exact ⟨x, by rw [← hx]; exact List.getElem_mem hl, this.1, this.2, rfl⟩
theorem accuse_f {v : V} {hs : List Hd} (h : (accuse v hs).2 = false) : (accuse v hs).1 = zeroF ∧ ∀ x ∈ hs, x.no ≤ v.ds.length → fitsB x v.ds = true := by
 unfold accuse at h ⊢
 cases hq : hs[oddI hs v.ds]? with
 | some x => rw [hq] at h; cases h
 | none =>
  refine ⟨rfl, fun x hx hn => ?_⟩
  have h1 : hs.length ≤ hs.findIdx (oddP v.ds) := List.getElem?_eq_none_iff.1 hq
  cases hf : fitsB x v.ds with
  | true => rfl
  | false =>
   have := List.findIdx_lt_length_of_exists (p := oddP v.ds) ⟨x, hx, odd_iff.2 ⟨hn, hf⟩⟩
   omega
theorem accuse_none {v : V} {hs : List Hd} (h : ∀ x ∈ hs, x.no ≤ v.ds.length → fitsB x v.ds = true) : accuse v hs = (zeroF, false) := by
 cases hq : (accuse v hs).2 with
 | false => rw [← (accuse_f hq).1, ← hq]
 | true =>
  obtain ⟨x, hx, h1, h2, _⟩ := accuse_t hq
  rw [h x hx h1] at h2
  cases h2

/-! ### Prove accepts what is returned -/
theorem prove_mk {pub : Int} {f : Fk} (h1 : verH pub f.a = true) (h2 : verH pub f.b = true) (h3 : f.a.st = f.b.st) (h4 : f.a.fo = f.b.fo) (h5 : f.a.no ≤ f.b.no) (h6 : f.b.no = f.ds.length) (h7 : fitsB f.b f.ds = true) (h8 : fitsB f.a f.ds = false) : proveV pub f = 0 := by
 unfold proveV proveB
 rw [h1, h2, h7, h8, decide_eq_true h3, decide_eq_true h4, decide_eq_true h5, decide_eq_true h6]
 rfl

theorem accOk_iff {v : V} {l : List Ent} {h : Hd} : accOk v l h = true ↔ Ok v ∧ ownsB v h = true ∧ h.no = l.length ∧ (∀ x ∈ l, entOk x = true) ∧ fitsB h (l.map (·.dig)) = true := by
 unfold accOk
 rw [Bool.and_eq_true, Bool.and_eq_true, Bool.and_eq_true, Bool.and_eq_true, validB_iff, decide_eq_true_iff, List.all_eq_true]
 simp only [and_assoc]

theorem accuse_prove {v : V} {hs : List Hd} (hv : ∀ x ∈ v.hs, ownsB v x = true) (hl : (lastH v.hs).no = v.ds.length) (hf : ∀ x ∈ v.hs, x.no = v.ds.length → fitsB x v.ds = true) (hh : ∀ x ∈ hs, ownsB v x = true) (hne : v.hs ≠ []) (h : (accuse v hs).2 = true) : proveV v.pub (accuse v hs).1 = 0 := by
 obtain ⟨x, hx, h1, h2, h3⟩ := accuse_t h
 rw [h3]
 obtain ⟨a1, a2, a3⟩ := owns_iff.1 (hh x hx)
 obtain ⟨b1, b2, b3⟩ := owns_iff.1 (hv _ (lastH_mem hne))
 exact prove_mk a3 b3 (by rw [a1, b1]) (by rw [a2, b2]) (by rw [hl]; exact h1) hl (hf _ (lastH_mem hne) hl) h2

theorem owns_of {a b : V} {x : Hd} (h1 : a.st = b.st) (h2 : a.fo = b.fo) (h3 : a.pub = b.pub) (h : ownsB a x = true) : ownsB b x = true := by
 rw [owns_iff] at h ⊢
 rw [← h1, ← h2, ← h3]
 exact h
theorem cmp2_prove {x y : V} (hx : Ok x) (hy : Ok y) (h1 : x.st = y.st) (h2 : x.fo = y.fo) (h3 : x.pub = y.pub) (hl : y.ds.length ≤ x.ds.length) (h : (cmp2 x y).2 = true) : proveV x.pub (cmp2 x y).1 = 0 := by
 have hyo : ∀ z ∈ y.hs, ownsB x z = true := fun z hz => owns_of h1.symm h2.symm h3.symm (hy.owns z hz)
 have hxo : ∀ z ∈ x.hs, ownsB y z = true := fun z hz => owns_of h1 h2 h3 (hx.owns z hz)
 unfold cmp2 at h ⊢
 split
 · rename_i hac
   refine accuse_prove hx.owns hx.last (fun z hz _ => hx.fits z hz) hyo ?_ hac
   intro e
   obtain ⟨z, hz, g1, g2, _⟩ := accuse_t hac
   have e1 : x.ds = [] := by
    have := hx.last
    rw [e] at this
    have h0 : (lastH ([] : List Hd)).no = 0 := rfl
    exact List.eq_nil_of_length_eq_zero (by omega)
   have e2 : y.ds = [] := List.eq_nil_of_length_eq_zero (by rw [e1] at hl; simpa using hl)
   have := hy.fits z hz
   rw [e2, ← e1, g2] at this
   cases this
 · rename_i hac
   rw [if_neg hac] at h
   rw [h3]
   refine accuse_prove hy.owns hy.last (fun z hz _ => hy.fits z hz) hxo ?_ h
   intro e
   obtain ⟨z, hz, g1, g2, _⟩ := accuse_t h
   have e1 : y.ds = [] := by
    have := hy.last
    rw [e] at this
    have h0 : (lastH ([] : List Hd)).no = 0 := rfl
    exact List.eq_nil_of_length_eq_zero (by omega)
   have h5 := hx.fits z hz
   have h6 := fits_no h5
   rw [e1] at g1 g2
   have h7 : z.no = 0 := by simp at g1; omega
   have h8 := fits_ch h5
   rw [h7] at h8
   have : fitsB z [] = true := fits_mk (by omega) (by simp [h7]) (by rw [h7]; simpa using h8)
   rw [g2] at this
   cases this
theorem cmpOk_iff {a b : V} : cmpOk a b = true ↔ Ok a ∧ Ok b ∧ a.st = b.st ∧ a.fo = b.fo ∧ a.pub = b.pub := by
 unfold cmpOk
 rw [Bool.and_eq_true, Bool.and_eq_true, Bool.and_eq_true, Bool.and_eq_true, validB_iff, validB_iff, decide_eq_true_iff, decide_eq_true_iff, decide_eq_true_iff]
 simp only [and_assoc]
theorem cmp_proofs {a b : V} (h : (cmpV a b).2 = true) : proveV a.pub (cmpV a b).1 = 0 := by
 unfold cmpV at h ⊢
 split
 · rename_i hok
   rw [if_pos hok] at h
   obtain ⟨ha, hb, h1, h2, h3⟩ := cmpOk_iff.1 hok
   split
   · rename_i hl
     rw [if_pos hl] at h
     rw [h3]
     exact cmp2_prove hb ha h1.symm h2.symm h3.symm (by omega) h
   · rename_i hl
     rw [if_neg hl] at h
     exact cmp2_prove ha hb h1 h2 h3 (by omega) h
 · rename_i hok
   rw [if_neg hok] at h
   cases h

/-! ### what is remembered -/
end Go.Vw
namespace Go.Vw
open Go.Proofs.YtiionehcmoginaaGreatDoor (chainD headB entryD)
open Go.Sto (Ent)

structure Sg (id fo pub : Int) (ds : List (List Nat)) (h : Hd) : Prop where
 est : h.st = id
 efo : h.fo = fo
 no : h.no = ds.length
 ch : h.ch = chainD fo ds
 ver : verH pub h = true
theorem ok_new {id fo pub : Int} (h1 : 0 ≤ id ∧ id < 4) (h2 : 0 ≤ fo ∧ fo < 16) : Ok (newV id fo pub) :=
 ⟨h1, h2, rfl, (fun _ h => by cases h), (fun _ h => by cases h), List.Pairwise.nil⟩
section
variable {id fo pub : Int} {D : List (List Nat)} {m n : Nat} {v w : V} {h : Hd} {l : List Ent}
theorem Sg.owns (hs : Sg id fo pub D h) (h1 : v.st = id) (h2 : v.fo = fo) (h3 : v.pub = pub) : ownsB v h = true := owns_iff.2 ⟨by rw [hs.est, h1], by rw [hs.efo, h2], by rw [h3]; exact hs.ver⟩
theorem Sg.fits (hs : Sg id fo pub D h) : fitsB h D = true := fits_mk (by rw [hs.no]; omega) (by rw [hs.no]; exact Int.le_refl _) (by rw [hs.no, hs.efo, Int.toNat_natCast, List.take_length, hs.ch])
/-! ### two lists -/
theorem acc_new {ds : List (List Nat)} (h1 : 0 ≤ id ∧ id < 4) (h2 : 0 ≤ fo ∧ fo < 16) (hl : l.map (·.dig) = ds) (he : ∀ x ∈ l, entOk x = true) (hs : Sg id fo pub ds h) : accV (newV id fo pub) l h = (⟨id, fo, pub, ds, [h]⟩, zeroF, 0) := by
 have hll : l.length = ds.length := by rw [← hl, List.length_map]
 have hok : accOk (newV id fo pub) l h = true := accOk_iff.2 ⟨ok_new h1 h2, hs.owns rfl rfl rfl, by rw [hs.no, hll], he, by rw [hl]; exact hs.fits⟩
 unfold accV
 rw [if_pos hok]
 unfold accD
 rw [if_pos (show (newV id fo pub).ds.length ≤ _ from Nat.zero_le _), accuse_none (fun x hx => by cases hx), hl]
 rfl
theorem ok_one {ds : List (List Nat)} (h1 : 0 ≤ id ∧ id < 4) (h2 : 0 ≤ fo ∧ fo < 16) (hs : Sg id fo pub ds h) : Ok ⟨id, fo, pub, ds, [h]⟩ :=
 ⟨h1, h2, hs.no, (fun x hx => by rw [List.mem_singleton] at hx; subst hx; exact hs.owns rfl rfl rfl), (fun x hx => by rw [List.mem_singleton] at hx; subst hx; exact hs.fits), List.pairwise_singleton _ _⟩
def differ (fo : Int) (p q : List (List Nat)) : Bool := decide (chainD fo (p.take (min p.length q.length)) ≠ chainD fo (q.take (min p.length q.length)))
theorem differ_symm (p q : List (List Nat)) : differ fo p q = differ fo q p := by
 unfold differ
 rw [Nat.min_comm]
 exact decide_eq_decide.2 ⟨fun h e => h e.symm, fun h e => h e.symm⟩
theorem fits_other {p q : List (List Nat)} (hs : Sg id fo pub p h) (hl : p.length ≤ q.length) : fitsB h q = !differ fo p q := by
 have hm : min p.length q.length = p.length := Nat.min_eq_left hl
 unfold fitsB differ
 rw [hm, List.take_length, hs.no, Int.toNat_natCast, hs.efo, hs.ch, decide_eq_true ⟨by omega, by omega⟩, Bool.true_and]
 by_cases he : chainD fo p = chainD fo (q.take p.length)
 · simp [he]
 · have he' : ¬ chainD fo (q.take p.length) = chainD fo p := fun e => he e.symm
   simp [he, he']
theorem accuse_one {vw : V} {x : Hd} (hx : x.no ≤ vw.ds.length) : (accuse vw [x]).2 = !fitsB x vw.ds := by
 cases hf : fitsB x vw.ds with
 | true => rw [accuse_none (fun y hy _ => by rw [List.mem_singleton] at hy; subst hy; exact hf)]; rfl
 | false =>
  cases hq : (accuse vw [x]).2 with
  | true => rfl
  | false =>
   have := (accuse_f hq).2 x (List.mem_singleton.2 rfl) hx
   rw [hf] at this
   cases this
theorem accuse_long {vw : V} {x : Hd} (hx : (vw.ds.length : Int) < x.no) : accuse vw [x] = (zeroF, false) := accuse_none (fun y hy hn => by rw [List.mem_singleton] at hy; subst hy; omega)
theorem cmp_two {k : Hd} {p q : List (List Nat)} (h1 : 0 ≤ id ∧ id < 4) (h2 : 0 ≤ fo ∧ fo < 16) (hs : Sg id fo pub p h) (ks : Sg id fo pub q k) : (cmpV ⟨id, fo, pub, p, [h]⟩ ⟨id, fo, pub, q, [k]⟩).2 = differ fo p q := by
 have hok : cmpOk ⟨id, fo, pub, p, [h]⟩ ⟨id, fo, pub, q, [k]⟩ = true := cmpOk_iff.2 ⟨ok_one h1 h2 hs, ok_one h1 h2 ks, rfl, rfl, rfl⟩
 have key : ∀ {x y : Hd} {a b : List (List Nat)}, Sg id fo pub a x → Sg id fo pub b y → b.length ≤ a.length → (cmp2 ⟨id, fo, pub, a, [x]⟩ ⟨id, fo, pub, b, [y]⟩).2 = differ fo b a := by
  intro x y a b hx hy hl
  unfold cmp2
  have e1 : (accuse ⟨id, fo, pub, a, [x]⟩ [y]).2 = differ fo b a := by
   rw [accuse_one (by show y.no ≤ (a.length : Int); rw [hy.no]; omega)]
   show (!fitsB y a) = _
   rw [fits_other hy hl, Bool.not_not]
  cases hd : differ fo b a with
  | true => rw [if_pos (by rw [e1, hd]), e1, hd]
  | false =>
   rw [if_neg (by rw [e1, hd]; simp)]
   by_cases hl2 : a.length = b.length
   · have e2 : (accuse ⟨id, fo, pub, b, [y]⟩ [x]).2 = differ fo a b := by
      rw [accuse_one (by show x.no ≤ (b.length : Int); rw [hx.no]; omega)]
      show (!fitsB x b) = _
      rw [fits_other hx (by omega), Bool.not_not]
     rw [e2, differ_symm, hd]
   · rw [accuse_long (by show (b.length : Int) < x.no; rw [hx.no]; omega)]
 unfold cmpV
 rw [if_pos hok]
 by_cases hl : p.length < q.length
 · rw [if_pos hl]
   exact (key ks hs (by omega))
 · rw [if_neg hl]
   rw [differ_symm]
   exact key hs ks (by omega)
/-! ### one list only -/
end
end Go.Vw

