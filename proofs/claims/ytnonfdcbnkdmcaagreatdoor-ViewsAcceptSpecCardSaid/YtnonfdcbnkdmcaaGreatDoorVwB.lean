/- views, plainly: heads, views, proofs; what the functions of chapter 32 compute; no program but the words for hashes and signatures views, plainly: what the laws of chapter 32 say of the functions views, plainly: stores that show beginnings of one list, or two lists a range over a function whose iterator writes rows of its own between the rounds: a law of the walk views.ends: the chains of a list of digests, yielded one by one views.fits slices of heads; views.odd results out of boxes; rows storedB into boxes: general laws views.odd, last, owns, valid views.owns, valid views.valid -/
import Derived.Test.YtnonfdcbnkdmcaaGreatDoorAl
import Derived.Test.YtnonfdcbnkdmcaaGreatDoorSve
import Derived.Test.YtnonfdcbnkdmcaaGreatDoorStPlain
import Derived.RangeFuncWrites
import Derived.RangeFuncNested
import Derived.RangeFuncRecord
import Derived.BigFrame
import Derived.Deep.MidRow
import Derived.Test.YtnonfdcbnkdmcaaGreatDoorSgA
import Derived.Test.YtnonfdcbnkdmcaaGreatDoorMem2
import Derived.Laws.ResultCell
import Derived.IntWalk
namespace Go.Vw
open Go.Proofs.YtnonfdcbnkdmcaaGreatDoor (chainD headB entryD)
open Go.Sto (Ent)

structure Hd where
 st : Int
 fo : Int
 no : Int
 ch : List Nat
 R : Int
 S : Int
structure V where
 st : Int
 fo : Int
 pub : Int
 ds : List (List Nat)
 hs : List Hd
structure Fk where
 a : Hd
 b : Hd
 ds : List (List Nat)

def zd : List Nat := List.replicate 32 0
def zeroH : Hd := ⟨0, 0, 0, zd, 0, 0⟩
def zeroV : V := ⟨0, 0, 0, [], []⟩
def zeroF : Fk := ⟨zeroH, zeroH, []⟩
def eqH (a b : Hd) : Bool := decide (a.st = b.st ∧ a.fo = b.fo ∧ a.no = b.no ∧ a.ch = b.ch ∧ a.R = b.R ∧ a.S = b.S)
def fitsB (h : Hd) (l : List (List Nat)) : Bool := decide (0 ≤ h.no ∧ h.no ≤ l.length) && decide (chainD h.fo (l.take h.no.toNat) = h.ch)
def oddP (l : List (List Nat)) (h : Hd) : Bool := decide (h.no ≤ l.length) && !fitsB h l
def oddI (hs : List Hd) (l : List (List Nat)) : Nat := hs.findIdx (oddP l)
def lastH (hs : List Hd) : Hd := hs.getLastD zeroH
def verH (pub : Int) (h : Hd) : Bool := headB pub h.st h.fo h.no h.ch h.R h.S
def ownsB (v : V) (h : Hd) : Bool := decide (h.st = v.st) && decide (h.fo = v.fo) && verH v.pub h
def headOk (v : V) (prev : Option Int) (h : Hd) : Bool := ownsB v h && (match prev with | none => true | some p => decide (p < h.no)) && fitsB h v.ds
def headsOk (v : V) : Option Int → List Hd → Bool
 | _, [] => true
 | p, h :: r => headOk v p h && headsOk v (some h.no) r
def rangeB (v : V) : Bool := decide (0 ≤ v.st ∧ v.st < 4) && decide (0 ≤ v.fo ∧ v.fo < 16) && decide ((lastH v.hs).no = v.ds.length)
def validB (v : V) : Bool := rangeB v && headsOk v none v.hs
def accuse (v : V) (hs : List Hd) : Fk × Bool :=
 match hs[oddI hs v.ds]? with
 | some h => (⟨h, lastH v.hs, v.ds⟩, true)
 | none => (zeroF, false)
def newV (st fo pub : Int) : V := ⟨st, fo, pub, [], []⟩
def checkV (v : V) : Int := if validB v then 0 else 320
def entOk (x : Ent) : Bool := Sto.kindB x.kind && (if x.gone then decide (x.kind = 4) && decide (x.data.length = 0) else decide (x.dig = entryD x.kind x.data))
def insH (h : Hd) : List Hd → List Hd
 | [] => [h]
 | x :: r => if x.no < h.no then x :: insH h r else if x.no = h.no then x :: r else h :: x :: r
def accD (v : V) (d : List (List Nat)) (h : Hd) : V × Fk × Int :=
 if v.ds.length ≤ d.length then
  if (accuse ⟨v.st, v.fo, v.pub, d, [h]⟩ v.hs).2 then (v, (accuse ⟨v.st, v.fo, v.pub, d, [h]⟩ v.hs).1, 321) else (⟨v.st, v.fo, v.pub, d, insH h v.hs⟩, zeroF, 0)
 else
  if (accuse v [h]).2 then (v, (accuse v [h]).1, 321) else (⟨v.st, v.fo, v.pub, v.ds, insH h v.hs⟩, zeroF, 0)
def accOk (v : V) (l : List Ent) (h : Hd) : Bool := validB v && ownsB v h && decide (h.no = l.length) && l.all entOk && fitsB h (l.map (·.dig))
def accV (v : V) (l : List Ent) (h : Hd) : V × Fk × Int := if accOk v l h then accD v (l.map (·.dig)) h else (zeroV, zeroF, 320)
def cmpOk (a b : V) : Bool := validB a && validB b && decide (a.st = b.st) && decide (a.fo = b.fo) && decide (a.pub = b.pub)
def cmp2 (x y : V) : Fk × Bool := if (accuse x y.hs).2 then accuse x y.hs else accuse y x.hs
def cmpV (a b : V) : Fk × Bool := if cmpOk a b then (if a.ds.length < b.ds.length then cmp2 b a else cmp2 a b) else (zeroF, false)
def proveB (pub : Int) (f : Fk) : Bool := verH pub f.a && verH pub f.b && decide (f.a.st = f.b.st) && decide (f.a.fo = f.b.fo) && decide (f.a.no ≤ f.b.no) && decide (f.b.no = f.ds.length) && fitsB f.b f.ds && !fitsB f.a f.ds
def proveV (pub : Int) (f : Fk) : Int := if proveB pub f then 0 else 321
end Go.Vw
namespace Go.Vw
open Go.Proofs.YtnonfdcbnkdmcaaGreatDoor (chainD headB entryD)
open Go.Sto (Ent)

theorem headsOk_iff (v : V) : ∀ (l : List Hd) (p : Option Int), headsOk v p l = true ↔ (∀ h ∈ l, ownsB v h = true ∧ fitsB h v.ds = true) ∧ l.Pairwise (fun a b => a.no < b.no) ∧ ∀ q, p = some q → ∀ h ∈ l, q < h.no
 | [], p => by simp [headsOk]
 | h :: r, p => by
  unfold headsOk headOk
  rw [Bool.and_eq_true, Bool.and_eq_true, Bool.and_eq_true, headsOk_iff v r]
  simp only [List.mem_cons, forall_eq_or_imp, List.pairwise_cons]
  constructor
  · rintro ⟨⟨⟨h1, h2⟩, h3⟩, h4, h5, h6⟩
    refine ⟨⟨⟨h1, h3⟩, h4⟩, ⟨fun x hx => h6 _ rfl x hx, h5⟩, fun q hq => ?_⟩
    subst hq
    have h7 := of_decide_eq_true h2
    exact ⟨h7, fun x hx => Int.lt_trans h7 (h6 _ rfl x hx)⟩
  · rintro ⟨⟨⟨h1, h3⟩, h4⟩, ⟨h6, h5⟩, h7⟩
    refine ⟨⟨⟨h1, ?_⟩, h3⟩, h4, h5, fun q hq x hx => by cases hq; exact h6 x hx⟩
    cases p with
    | none => rfl
    | some q => exact decide_eq_true (h7 q rfl).1

structure Ok (v : V) : Prop where
 st : 0 ≤ v.st ∧ v.st < 4
 fo : 0 ≤ v.fo ∧ v.fo < 16
 last : (lastH v.hs).no = v.ds.length
 owns : ∀ h ∈ v.hs, ownsB v h = true
 fits : ∀ h ∈ v.hs, fitsB h v.ds = true
 up : v.hs.Pairwise (fun a b => a.no < b.no)
theorem validB_iff (v : V) : validB v = true ↔ Ok v := by
 unfold validB rangeB
 rw [Bool.and_eq_true, Bool.and_eq_true, Bool.and_eq_true, decide_eq_true_iff, decide_eq_true_iff, decide_eq_true_iff, headsOk_iff]
 constructor
 · rintro ⟨⟨⟨h1, h2⟩, h3⟩, h4, h5, _⟩
   exact ⟨h1, h2, h3, fun h hh => (h4 h hh).1, fun h hh => (h4 h hh).2, h5⟩
 · intro h
   exact ⟨⟨⟨h.st, h.fo⟩, h.last⟩, fun x hx => ⟨h.owns x hx, h.fits x hx⟩, h.up, fun q hq => by cases hq⟩

theorem lastH_cons (h : Hd) (r : List Hd) (hr : r ≠ []) : lastH (h :: r) = lastH r := by
 unfold lastH
 cases r with
 | nil => exact absurd rfl hr
 | cons a t => simp [List.getLastD]
theorem lastH_mem : ∀ {l : List Hd}, l ≠ [] → lastH l ∈ l
 | [], h => absurd rfl h
 | [x], _ => by simp [lastH]
 | x :: y :: r, _ => by
  rw [lastH_cons x (y :: r) (by simp)]
  exact List.mem_cons_of_mem _ (lastH_mem (by simp))
theorem lastH_max : ∀ {l : List Hd}, l.Pairwise (fun a b => a.no < b.no) → ∀ h ∈ l, h.no ≤ (lastH l).no
 | [], _, h, hh => by cases hh
 | [x], _, h, hh => by
  rw [List.mem_singleton] at hh
  subst hh
  exact Int.le_refl _
 | x :: y :: r, hp, h, hh => by
  rw [lastH_cons x (y :: r) (by simp)]
  rw [List.pairwise_cons] at hp
  rcases List.mem_cons.1 hh with rfl | hh
  · exact Int.le_of_lt (hp.1 _ (lastH_mem (by simp)))
  · exact lastH_max hp.2 h hh
theorem fits_no {h : Hd} {l : List (List Nat)} (hf : fitsB h l = true) : 0 ≤ h.no ∧ h.no ≤ l.length := by
 unfold fitsB at hf
 rw [Bool.and_eq_true] at hf
 exact of_decide_eq_true hf.1
theorem fits_mk {h : Hd} {l : List (List Nat)} (h0 : 0 ≤ h.no) (h1 : h.no ≤ l.length) (h2 : chainD h.fo (l.take h.no.toNat) = h.ch) : fitsB h l = true := by
 unfold fitsB
 rw [Bool.and_eq_true]
 exact ⟨decide_eq_true ⟨h0, h1⟩, decide_eq_true h2⟩
theorem owns_iff {v : V} {h : Hd} : ownsB v h = true ↔ h.st = v.st ∧ h.fo = v.fo ∧ verH v.pub h = true := by
 unfold ownsB
 rw [Bool.and_eq_true, Bool.and_eq_true, decide_eq_true_iff, decide_eq_true_iff]
 exact and_assoc
theorem odd_iff {l : List (List Nat)} {h : Hd} : oddP l h = true ↔ h.no ≤ l.length ∧ fitsB h l = false := by
 unfold oddP
 rw [Bool.and_eq_true, decide_eq_true_iff, Bool.not_eq_true']

theorem accuse_t {v : V} {hs : List Hd} (h : (accuse v hs).2 = true) : ∃ x ∈ hs, x.no ≤ v.ds.length ∧ fitsB x v.ds = false ∧ (accuse v hs).1 = ⟨x, lastH v.hs, v.ds⟩ := by
 unfold accuse at h ⊢
 cases hq : hs[oddI hs v.ds]? with
 | none => rw [hq] at h; cases h
 | some x =>
  have hl := (List.getElem?_eq_some_iff.1 hq).1
  have hx := (List.getElem?_eq_some_iff.1 hq).2
  have := List.findIdx_getElem (p := oddP v.ds) (w := hl)
  have he : hs[oddI hs v.ds] = x := hx
  unfold oddI at he
  rw [he, odd_iff] at this
  exact ⟨x, by rw [← hx]; exact List.getElem_mem hl, this.1, this.2, rfl⟩
theorem accuse_f {v : V} {hs : List Hd} (h : (accuse v hs).2 = false) : (accuse v hs).1 = zeroF ∧ ∀ x ∈ hs, x.no ≤ v.ds.length → fitsB x v.ds = true := by
 unfold accuse at h ⊢
 cases hq : hs[oddI hs v.ds]? with
 | some x => rw [hq] at h; cases h
 | none =>
  refine ⟨rfl, fun x hx hn => ?_⟩
  have h1 : hs.length ≤ hs.findIdx (oddP v.ds) := List.getElem?_eq_none_iff.1 hq
  cases hf : fitsB x v.ds with
  | true => rfl
  | false =>
   have := List.findIdx_lt_length_of_exists (p := oddP v.ds) ⟨x, hx, odd_iff.2 ⟨hn, hf⟩⟩
   omega
theorem accuse_none {v : V} {hs : List Hd} (h : ∀ x ∈ hs, x.no ≤ v.ds.length → fitsB x v.ds = true) : accuse v hs = (zeroF, false) := by
 cases hq : (accuse v hs).2 with
 | false => rw [← (accuse_f hq).1, ← hq]
 | true =>
  obtain ⟨x, hx, h1, h2, _⟩ := accuse_t hq
  rw [h x hx h1] at h2
  cases h2

/-! ### Prove accepts what is returned -/
theorem prove_mk {pub : Int} {f : Fk} (h1 : verH pub f.a = true) (h2 : verH pub f.b = true) (h3 : f.a.st = f.b.st) (h4 : f.a.fo = f.b.fo) (h5 : f.a.no ≤ f.b.no) (h6 : f.b.no = f.ds.length) (h7 : fitsB f.b f.ds = true) (h8 : fitsB f.a f.ds = false) : proveV pub f = 0 := by
 unfold proveV proveB
 rw [h1, h2, h7, h8, decide_eq_true h3, decide_eq_true h4, decide_eq_true h5, decide_eq_true h6]
 rfl

theorem accOk_iff {v : V} {l : List Ent} {h : Hd} : accOk v l h = true ↔ Ok v ∧ ownsB v h = true ∧ h.no = l.length ∧ (∀ x ∈ l, entOk x = true) ∧ fitsB h (l.map (·.dig)) = true := by
 unfold accOk
 rw [Bool.and_eq_true, Bool.and_eq_true, Bool.and_eq_true, Bool.and_eq_true, validB_iff, decide_eq_true_iff, List.all_eq_true]
 simp only [and_assoc]

theorem accuse_prove {v : V} {hs : List Hd} (hv : ∀ x ∈ v.hs, ownsB v x = true) (hl : (lastH v.hs).no = v.ds.length) (hf : ∀ x ∈ v.hs, x.no = v.ds.length → fitsB x v.ds = true) (hh : ∀ x ∈ hs, ownsB v x = true) (hne : v.hs ≠ []) (h : (accuse v hs).2 = true) : proveV v.pub (accuse v hs).1 = 0 := by
 obtain ⟨x, hx, h1, h2, h3⟩ := accuse_t h
 rw [h3]
 obtain ⟨a1, a2, a3⟩ := owns_iff.1 (hh x hx)
 obtain ⟨b1, b2, b3⟩ := owns_iff.1 (hv _ (lastH_mem hne))
 exact prove_mk a3 b3 (by rw [a1, b1]) (by rw [a2, b2]) (by rw [hl]; exact h1) hl (hf _ (lastH_mem hne) hl) h2

theorem Ok.hs_ne {v : V} (h : Ok v) (hn : v.ds ≠ []) : v.hs ≠ [] := by
 intro e
 have := h.last
 rw [e] at this
 have h0 : (lastH ([] : List Hd)).no = 0 := rfl
 have : 0 < v.ds.length := List.length_pos_iff.2 hn
 omega

theorem accuse_new {v : V} {d : List (List Nat)} {h : Hd} {n : Nat} (ho : ownsB v h = true) (hno : h.no = n) (hf : fitsB h d = true) (hh : ∀ x ∈ v.hs, ownsB v x = true) (hac : (accuse ⟨v.st, v.fo, v.pub, d, [h]⟩ v.hs).2 = true) (hn : d.length = n := by simp) : proveV v.pub (accuse ⟨v.st, v.fo, v.pub, d, [h]⟩ v.hs).1 = 0 := by
 obtain ⟨x, hx, h1, h2, h3⟩ := accuse_t hac
 rw [h3]
 obtain ⟨a1, a2, a3⟩ := owns_iff.1 (hh x hx)
 obtain ⟨b1, b2, b3⟩ := owns_iff.1 ho
 have hl : lastH [h] = h := rfl
 have hd : ((d.length : Nat) : Int) = h.no := by rw [hno, hn]
 refine prove_mk a3 ?_ ?_ ?_ ?_ ?_ ?_ h2 <;> simp only [hl]
 · exact b3
 · rw [a1, b1]
 · rw [a2, b2]
 · rw [← hd]; exact h1
 · exact hd.symm
 · exact hf
theorem acc_proofs {v : V} {l : List Ent} {h : Hd} : ((accV v l h).2.2 = 321 → proveV v.pub (accV v l h).2.1 = 0 ∧ (accV v l h).1 = v) ∧ ((accV v l h).2.2 ≠ 321 → (accV v l h).2.1 = zeroF) := by
 unfold accV
 split
 · rename_i hok
   obtain ⟨hv, ho, hno, he, hf⟩ := accOk_iff.1 hok
   unfold accD
   split
   · split
     · rename_i hac
       refine ⟨fun _ => ⟨?_, rfl⟩, fun hne => absurd rfl hne⟩
       exact accuse_new ho hno hf hv.owns hac
     · exact ⟨fun e => (by cases e), fun _ => rfl⟩
   · rename_i hlen
     split
     · rename_i hac
       refine ⟨fun _ => ⟨?_, rfl⟩, fun hne => absurd rfl hne⟩
       refine accuse_prove hv.owns hv.last (fun x hx _ => hv.fits x hx) (fun x hx => ?_) (hv.hs_ne ?_) hac
       · rw [List.mem_singleton] at hx; subst hx; exact ho
       · intro e; rw [e] at hlen; simp at hlen
     · exact ⟨fun e => (by cases e), fun _ => rfl⟩
 · exact ⟨fun e => (by cases e), fun _ => rfl⟩

theorem cmpOk_iff {a b : V} : cmpOk a b = true ↔ Ok a ∧ Ok b ∧ a.st = b.st ∧ a.fo = b.fo ∧ a.pub = b.pub := by
 unfold cmpOk
 rw [Bool.and_eq_true, Bool.and_eq_true, Bool.and_eq_true, Bool.and_eq_true, validB_iff, validB_iff, decide_eq_true_iff, decide_eq_true_iff, decide_eq_true_iff]
 simp only [and_assoc]
/-! ### what is remembered -/
end Go.Vw
namespace Go.Vw
open Go.Proofs.YtnonfdcbnkdmcaaGreatDoor (chainD headB entryD)
open Go.Sto (Ent)

structure Sg (id fo pub : Int) (ds : List (List Nat)) (h : Hd) : Prop where
 est : h.st = id
 efo : h.fo = fo
 no : h.no = ds.length
 ch : h.ch = chainD fo ds
 ver : verH pub h = true
theorem ok_new {id fo pub : Int} (h1 : 0 ≤ id ∧ id < 4) (h2 : 0 ≤ fo ∧ fo < 16) : Ok (newV id fo pub) :=
 ⟨h1, h2, rfl, (fun _ h => by cases h), (fun _ h => by cases h), List.Pairwise.nil⟩
section
variable {id fo pub : Int} {D : List (List Nat)} {m n : Nat} {v w : V} {h : Hd} {l : List Ent}
theorem Sg.owns (hs : Sg id fo pub D h) (h1 : v.st = id) (h2 : v.fo = fo) (h3 : v.pub = pub) : ownsB v h = true := owns_iff.2 ⟨by rw [hs.est, h1], by rw [hs.efo, h2], by rw [h3]; exact hs.ver⟩
theorem Sg.fits (hs : Sg id fo pub D h) : fitsB h D = true := fits_mk (by rw [hs.no]; omega) (by rw [hs.no]; exact Int.le_refl _) (by rw [hs.no, hs.efo, Int.toNat_natCast, List.take_length, hs.ch])
theorem hon_fits (hf : h.fo = fo) (h0 : 0 ≤ h.no) (hc : h.ch = chainD fo (D.take h.no.toNat)) (hm : h.no ≤ ((D.take m).length : Nat)) : fitsB h (D.take m) = true := by
 refine fits_mk h0 hm ?_
 have hl : h.no.toNat ≤ m := by rw [List.length_take] at hm; omega
 rw [hf, List.take_take, Nat.min_eq_left hl, hc]
/-! ### two lists -/
theorem acc_new {ds : List (List Nat)} (h1 : 0 ≤ id ∧ id < 4) (h2 : 0 ≤ fo ∧ fo < 16) (hl : l.map (·.dig) = ds) (he : ∀ x ∈ l, entOk x = true) (hs : Sg id fo pub ds h) : accV (newV id fo pub) l h = (⟨id, fo, pub, ds, [h]⟩, zeroF, 0) := by
 have hll : l.length = ds.length := by rw [← hl, List.length_map]
 have hok : accOk (newV id fo pub) l h = true := accOk_iff.2 ⟨ok_new h1 h2, hs.owns rfl rfl rfl, by rw [hs.no, hll], he, by rw [hl]; exact hs.fits⟩
 unfold accV
 rw [if_pos hok]
 unfold accD
 rw [if_pos (show (newV id fo pub).ds.length ≤ _ from Nat.zero_le _), accuse_none (fun x hx => by cases hx), hl]
 rfl
theorem ok_one {ds : List (List Nat)} (h1 : 0 ≤ id ∧ id < 4) (h2 : 0 ≤ fo ∧ fo < 16) (hs : Sg id fo pub ds h) : Ok ⟨id, fo, pub, ds, [h]⟩ :=
 ⟨h1, h2, hs.no, (fun x hx => by rw [List.mem_singleton] at hx; subst hx; exact hs.owns rfl rfl rfl), (fun x hx => by rw [List.mem_singleton] at hx; subst hx; exact hs.fits), List.pairwise_singleton _ _⟩
def differ (fo : Int) (p q : List (List Nat)) : Bool := decide (chainD fo (p.take (min p.length q.length)) ≠ chainD fo (q.take (min p.length q.length)))
theorem differ_symm (p q : List (List Nat)) : differ fo p q = differ fo q p := by
 unfold differ
 rw [Nat.min_comm]
 exact decide_eq_decide.2 ⟨fun h e => h e.symm, fun h e => h e.symm⟩
theorem fits_other {p q : List (List Nat)} (hs : Sg id fo pub p h) (hl : p.length ≤ q.length) : fitsB h q = !differ fo p q := by
 have hm : min p.length q.length = p.length := Nat.min_eq_left hl
 unfold fitsB differ
 rw [hm, List.take_length, hs.no, Int.toNat_natCast, hs.efo, hs.ch, decide_eq_true ⟨by omega, by omega⟩, Bool.true_and]
 by_cases he : chainD fo p = chainD fo (q.take p.length)
 · simp [he]
 · have he' : ¬ chainD fo (q.take p.length) = chainD fo p := fun e => he e.symm
   simp [he, he']
theorem accuse_one {vw : V} {x : Hd} (hx : x.no ≤ vw.ds.length) : (accuse vw [x]).2 = !fitsB x vw.ds := by
 cases hf : fitsB x vw.ds with
 | true => rw [accuse_none (fun y hy _ => by rw [List.mem_singleton] at hy; subst hy; exact hf)]; rfl
 | false =>
  cases hq : (accuse vw [x]).2 with
  | true => rfl
  | false =>
   have := (accuse_f hq).2 x (List.mem_singleton.2 rfl) hx
   rw [hf] at this
   cases this
theorem accuse_long {vw : V} {x : Hd} (hx : (vw.ds.length : Int) < x.no) : accuse vw [x] = (zeroF, false) := accuse_none (fun y hy hn => by rw [List.mem_singleton] at hy; subst hy; omega)
theorem cmp_two {k : Hd} {p q : List (List Nat)} (h1 : 0 ≤ id ∧ id < 4) (h2 : 0 ≤ fo ∧ fo < 16) (hs : Sg id fo pub p h) (ks : Sg id fo pub q k) : (cmpV ⟨id, fo, pub, p, [h]⟩ ⟨id, fo, pub, q, [k]⟩).2 = differ fo p q := by
 have hok : cmpOk ⟨id, fo, pub, p, [h]⟩ ⟨id, fo, pub, q, [k]⟩ = true := cmpOk_iff.2 ⟨ok_one h1 h2 hs, ok_one h1 h2 ks, rfl, rfl, rfl⟩
 have key : ∀ {x y : Hd} {a b : List (List Nat)}, Sg id fo pub a x → Sg id fo pub b y → b.length ≤ a.length → (cmp2 ⟨id, fo, pub, a, [x]⟩ ⟨id, fo, pub, b, [y]⟩).2 = differ fo b a := by
  intro x y a b hx hy hl
  unfold cmp2
  have e1 : (accuse ⟨id, fo, pub, a, [x]⟩ [y]).2 = differ fo b a := by
   rw [accuse_one (by show y.no ≤ (a.length : Int); rw [hy.no]; omega)]
   show (!fitsB y a) = _
   rw [fits_other hy hl, Bool.not_not]
  cases hd : differ fo b a with
  | true => rw [if_pos (by rw [e1, hd]), e1, hd]
  | false =>
   rw [if_neg (by rw [e1, hd]; simp)]
   by_cases hl2 : a.length = b.length
   · have e2 : (accuse ⟨id, fo, pub, b, [y]⟩ [x]).2 = differ fo a b := by
      rw [accuse_one (by show x.no ≤ (b.length : Int); rw [hx.no]; omega)]
      show (!fitsB x b) = _
      rw [fits_other hx (by omega), Bool.not_not]
     rw [e2, differ_symm, hd]
   · rw [accuse_long (by show (b.length : Int) < x.no; rw [hx.no]; omega)]
 unfold cmpV
 rw [if_pos hok]
 by_cases hl : p.length < q.length
 · rw [if_pos hl]
   exact (key ks hs (by omega))
 · rw [if_neg hl]
   rw [differ_symm]
   exact key hs ks (by omega)
theorem acc_two {k : Hd} {p q : List (List Nat)} (h1 : 0 ≤ id ∧ id < 4) (h2 : 0 ≤ fo ∧ fo < 16) (hs : Sg id fo pub p h) (ks : Sg id fo pub q k) (hl : l.map (·.dig) = q) (he : ∀ x ∈ l, entOk x = true) : (accV ⟨id, fo, pub, p, [h]⟩ l k).2.2 = if differ fo p q then 321 else 0 := by
 have hll : l.length = q.length := by rw [← hl, List.length_map]
 have hok : accOk ⟨id, fo, pub, p, [h]⟩ l k = true := accOk_iff.2 ⟨ok_one h1 h2 hs, ks.owns rfl rfl rfl, by rw [ks.no, hll], he, by rw [hl]; exact ks.fits⟩
 unfold accV
 rw [if_pos hok, hl]
 unfold accD
 simp only []
 by_cases hpq : p.length ≤ q.length
 · rw [if_pos hpq]
   have e : (accuse ⟨id, fo, pub, q, [k]⟩ [h]).2 = differ fo p q := by
    rw [accuse_one (by show h.no ≤ (q.length : Int); rw [hs.no]; omega)]
    show (!fitsB h q) = _
    rw [fits_other hs hpq, Bool.not_not]
   rw [e]
   cases differ fo p q <;> rfl
 · rw [if_neg hpq]
   have e : (accuse ⟨id, fo, pub, p, [h]⟩ [k]).2 = differ fo p q := by
    rw [accuse_one (by show k.no ≤ (p.length : Int); rw [ks.no]; omega)]
    show (!fitsB k p) = _
    rw [fits_other ks (by omega), Bool.not_not, differ_symm]
   rw [e]
   cases differ fo p q <;> rfl

/-! ### one list only -/
theorem prove_own {k : Hd} (hm : m ≤ D.length) (hn : n ≤ D.length) (hs : Sg id fo pub (D.take m) h) (ks : Sg id fo pub (D.take n) k) : proveV pub ⟨h, k, D.take n⟩ = 321 := by
 unfold proveV
 rw [if_neg]
 intro e
 unfold proveB at e
 simp only [Bool.and_eq_true, decide_eq_true_iff, Bool.not_eq_true'] at e
 obtain ⟨⟨⟨_, h5⟩, _⟩, h8⟩ := e
 have hno : h.no = m := by rw [hs.no, List.length_take, Nat.min_eq_left hm]
 have hkn : k.no = n := by rw [ks.no, List.length_take, Nat.min_eq_left hn]
 have := hon_fits (m := n) (D := D) (h := h) hs.efo (by omega) (by rw [hs.ch, hno, Int.toNat_natCast]) (by rw [List.length_take, Nat.min_eq_left hn]; omega)
 rw [h8] at this
 cases this
end
end Go.Vw
namespace Go
open Go.RowKit
variable {F : Fence} {n : Nat} {P : Program}

def Deaf {β : Type} (B : Nat) (J : β → World → Prop) : Prop := ∀ s A C row, J s A → A.grownBy C row → (∀ r, row = some r → B ≤ r) → J s C
theorem Deaf.none {β : Type} {B : Nat} {J : β → World → Prop} (h : Deaf B J) {s : β} {A C : World} (hs : J s A) (hg : A.grownBy C none) : J s C := h s A C Option.none hs hg (fun _ e => by cases e)
theorem Deaf.put {β : Type} {B : Nat} {J : β → World → Prop} (h : Deaf B J) {s : β} {A : World} (hs : J s A) {l : Nat} (o : Obj) (hl : B ≤ l) : J s (A.putObj l o) :=
 h s A _ (some l) hs (grownBy_putObj' A l o) (fun r e => by cases e; exact hl)
theorem Deaf.alloc {β : Type} {B : Nat} {J : β → World → Prop} (h : Deaf B J) {s : β} {A : World} (hs : J s A) (o : Obj) : J s (A.alloc o) := h.none hs (World.grownBy_alloc A o Option.none)
theorem Deaf.and {β : Type} {B : Nat} {I J : β → World → Prop} (h : Deaf B I) (k : Deaf B J) : Deaf B (fun s W => I s W ∧ J s W) := fun s A C row hs hg hr => ⟨h s A C row hs.1 hg hr, k s A C row hs.2 hg hr⟩
theorem deaf_below {β : Type} {B n₀ : Nat} {w₀ : World} (hn : n₀ ≤ w₀.heap.size) (hB : n₀ ≤ B) : Deaf B (fun (_ : β) W => Below n₀ w₀ W) := fun _ _ _ _ hs hg hr => hs.grown hg (Nat.le_trans hn hs.size) (fun r e => Nat.le_trans hB (hr r e))
theorem deaf_pure {β : Type} (B : Nat) (p : β → Prop) : Deaf B (fun s (_ : World) => p s) := fun _ _ _ _ hs _ _ => hs

def SeqOwn {α : Type} (F : Fence) (n : Nat) (P : Program) (g : Nat) (lb : Array Value) (encs : α → Array Value) (S Sp : List α → Prop) (N : Nat) (w : World) : Prop :=
 ∀ (l : Nat) (J Jx : List α → World → Prop) (W : World), Below w.heap.size w W → w.heap.size ≤ l → l < W.heap.size → Deaf W.heap.size J →
  (∀ pre x A, J pre A → pre.length < N → YieldAt F (n - 1) P l (encs x) A fun e C =>
    (e = .returned (.bool true) ∧ J (pre ++ [x]) C ∧ A.grownBy C (some l)) ∨ (e = .returned (.bool false) ∧ Jx (pre ++ [x]) C)) →
  J [] W →
  CallsIn F n P g (#[.func (.yield l) #[] #[]] ++ lb) W fun e C => (∃ v, e = .returned v) ∧ ((∃ xs, S xs ∧ J xs C) ∨ (∃ pre, Sp pre ∧ Jx pre C))

def roundLeft {α : Type} (B : Nat) (I : List α → World → Prop) (Ix : Code → List α → World → Prop) (xs : List α) (A : World) : Exit → Act → World → Prop
 | .normal, _, C => A.grownBy C none ∧ I xs C
 | .ret, _, C => KeepsFrom B A C ∧ Ix .ret xs C
 | .exit id, _, C => KeepsFrom B A C ∧ Ix (.exit id) xs C
 | .goto t, _, C => KeepsFrom B A C ∧ Ix (.goto t) xs C
 | .panic _, _, _ => False
 | .outgrown, _, _ => False

theorem grown_put_put {A C : World} {l : Nat} {o o' : Obj} (h : (A.putObj l o).grownBy C none) : A.grownBy (C.putObj l o') (some l) := by
 have h1 := grownBy_putObj' A l o
 have h2 := grownBy_putObj' C l o'
 exact ⟨h2.os.trans (h.os.trans h1.os), h2.tape.trans (h.tape.trans h1.tape), h2.output.trans (h.output.trans h1.output), Nat.le_trans h1.size (Nat.le_trans h.size h2.size), fun i hi hne =>
  (h2.block i (Nat.lt_of_lt_of_le hi (Nat.le_trans h1.size h.size)) hne).trans ((h.block i (Nat.lt_of_lt_of_le hi h1.size) (by simp)).trans (h1.block i hi hne))⟩

theorem wpIn_range_own {α : Type} {g : Operand} {ps : Array Tmp} {assign body : Code} {Q : Exit → Act → World → Prop} {a : Act} {w : World}
 (hro : F.round = none) (h1 : 1 ≤ n) {gf : Nat} {lb : Array Value} (hg : a.eval g = .func (.func gf) #[] lb) (hFg : F.fn gf) (eg : ∀ args w, (callFunc gf args).run P w = .ok (.enter gf args) w)
 {encs : α → Array Value} {S Sp : List α → Prop} {N : Nat} (hseq : SeqOwn F (n - 1) P gf lb encs S Sp N w) (hps : ∀ x, (encs x).size = ps.size)
 (I : List α → World → Prop) (Ix : Code → List α → World → Prop) (hI : Deaf w.heap.size I) (hIx : ∀ c, Deaf w.heap.size (Ix c)) (h0 : I [] w)
 (Ax : α → Act → World → Prop) (hAx : ∀ x a' A C l r, Ax x a' A → A.heap[l]? = some (.loop r) → A.grownBy C (some l) → Ax x a' C)
 (hassign : ∀ (l : Nat) (pre : List α) (x : α) (A : World) (K : Act → World → Prop), I pre A → (∀ a' C, A.grownBy C none → Ax x a' C → K a' C) →
   assign.wpIn (F.inRound l) (n - 1 - 1) P (Exit.then K (fun _ _ _ => False)) { tmps := (ps.zip (encs x)).foldl (fun t (p, v) => t.setIfInBounds p v) a.tmps, defers := [] } A)
 (hbody : ∀ (l : Nat) (pre : List α) (x : α) (a' : Act) (A : World), w.heap.size + 1 < A.heap.size → I pre A → Ax x a' A → pre.length < N → body.wpIn (F.inRound l) (n - 1 - 1) P (roundLeft w.heap.size I Ix (pre ++ [x]) A) a' A)
 (hdone : ∀ (D : Nat) (xs : List α) (A : World), w.heap.size ≤ D → S xs → I xs A → A.heap[D]? = some (.deferred (some [])) → Q .normal { a with defers := { target := .collected D, args := #[] } :: a.defers } A)
 (hstop : ∀ (D : Nat) (c : Code) (pre : List α) (A : World), w.heap.size ≤ D → Sp pre → Ix c pre A → A.heap[D]? = some (.deferred (some [])) → c.wpIn F n P Q { a with defers := { target := .collected D, args := #[] } :: a.defers } A) :
 (Code.rangeFunc g ps assign body).wpIn F n P Q a w := by
 refine wpIn_rangeFunc fun fn hfn => ?_
 rw [hro]
 generalize hK : w.heap.size = k at *
 have hrec : ∃ rec : LoopState → Option Code → Loop, (∀ st pe, rec st pe = { state := st, pending := pe, fn, tmps := a.tmps, params := ps, assign, body, defers := k }) := ⟨_, fun _ _ => rfl⟩
 obtain ⟨rec, hrec⟩ := hrec
 have hW1 : ∃ W1, W1 = (w.alloc (.deferred (some []))).alloc (.loop (rec .ready none)) := ⟨_, rfl⟩
 obtain ⟨W1, hW1⟩ := hW1
 have hsz : W1.heap.size = k + 2 := by rw [hW1, ← hK]; simp
 have hL1 : W1.heap[k + 1]? = some (.loop (rec .ready none)) := by
  have := World.alloc_heap_new (w.alloc (.deferred (some []))) (.loop (rec .ready none))
  rw [World.size_alloc, hK] at this
  rw [hW1]; exact this
 have hK1 : W1.heap[k]? = some (.deferred (some [])) := by
  rw [hW1, ← hK]
  exact (Below.heap_alloc _ _ _ (by simp)).trans (World.alloc_heap_new w _)
 have hI1 : I [] W1 := by rw [hW1]; exact hI.alloc (hI.alloc h0 _) _
 have hb1 : Below w.heap.size w W1 := by rw [hW1]; exact ((Below.refl _ w).alloc (Nat.le_refl _) _).alloc (by simp) _
 refine ⟨k + 1, [{ target := .collected k, args := #[] }], W1, { target := .fn (.func gf) lb, args := #[.func (.yield (k + 1)) #[] #[]] }, W1, gf,
  #[.func (.yield (k + 1)) #[] #[]] ++ lb, W1, ?_, ?_, ?_, ?_, fun _ => h1, ?_⟩
 · have := run_enterLoop_outer (P := P) (w := w) fn a.tmps ps assign body
   rw [this, hW1, hrec, hK]
 · simp only [resolve, hg]
   simp [go_sem]
 · intro f' hf'; simp [Target.leads] at hf'; subst hf'; exact hFg
 · simp [invoke, go_sem, eg]
 · -- the records and the invariant go through the iterator
   have hrecs : ∀ {A C : World} {row : Option Nat} {i : Nat} {o : Obj}, A.heap[i]? = some o → A.grownBy C row → (∀ r, row = some r → W1.heap.size ≤ r) → i < k + 2 → C.heap[i]? = some o := fun ho hg' hr hi =>
    (hg'.block _ (Array.getElem?_eq_some_iff.1 ho).1 (fun e => by have := hr _ e.symm; omega)).trans ho
   refine (hseq (k + 1)
    (fun pre W => I pre W ∧ W.heap[k + 1]? = some (.loop (rec .ready none)) ∧ W.heap[k]? = some (.deferred (some [])))
    (fun pre W => ∃ c, Ix c pre W ∧ W.heap[k + 1]? = some (.loop (rec .done (some c))) ∧ W.heap[k]? = some (.deferred (some [])))
    W1 hb1 (by omega) (by omega)
    (fun s A C row hs hg' hr => ⟨hI s A C row hs.1 hg' (fun r e => by have := hr r e; omega), hrecs hs.2.1 hg' hr (by omega), hrecs hs.2.2 hg' hr (by omega)⟩)
    ?_ ⟨hI1, hL1, hK1⟩).mono ?_
   · rintro pre x A ⟨hi, hl, hk⟩ hlen
     have hlt : k + 1 < A.heap.size := (Array.getElem?_eq_some_iff.1 hl).1
     have hy := run_yield (P := P) (args := encs x) hl (by rw [hrec]; exact hps x)
     rw [hrec] at hy
     refine ⟨fn, _, assign, body, hy, roundIn_of_wpIn hfn (hassign _ pre x A _ hi (fun a' A2 hg2 hx2 => ?_))⟩
     have hl2 : A2.heap[k + 1]? = some (.loop (rec .ready none)) := (hg2.block _ hlt (by simp)).trans hl
     have hk2 : A2.heap[k]? = some (.deferred (some [])) := (hg2.block _ (by omega) (by simp)).trans hk
     refine ⟨_, run_beginRound hl2 (by rw [hrec]), ?_⟩
     have hlt2 : k + 1 < A2.heap.size := (Array.getElem?_eq_some_iff.1 hl2).1
     generalize hA3 : A2.putObj (k + 1) (.loop { rec .ready none with state := .busy }) = A3
     have hl3 : A3.heap[k + 1]? = some (.loop { rec .ready none with state := .busy }) := by rw [← hA3]; exact World.putObj_heap_same hlt2
     have hk3 : A3.heap[k]? = some (.deferred (some [])) := by rw [← hA3]; exact (World.putObj_heap_other (by omega)).trans hk2
     have hi3 : I pre A3 := by rw [← hA3]; exact hI.put (hI.none hi hg2) _ (by omega)
     have hx3 : Ax x a' A3 := by rw [← hA3]; exact hAx x a' A2 _ _ _ hx2 hl2 (grownBy_putObj' A2 (k + 1) _)
     have hg3 : (A.putObj (k + 1) (.loop { rec .ready none with state := .busy })).grownBy A3 none := by
      have q1 := grownBy_putObj' A (k + 1) (.loop { rec .ready none with state := .busy })
      have q2 := grownBy_putObj' A2 (k + 1) (.loop { rec .ready none with state := .busy })
      rw [hA3] at q2
      refine ⟨q2.os.trans (hg2.os.trans q1.os.symm), q2.tape.trans (hg2.tape.trans q1.tape.symm), q2.output.trans (hg2.output.trans q1.output.symm), ?_, fun i hi' _ => ?_⟩
      · have e1 : (A.putObj (k + 1) (.loop { rec .ready none with state := .busy })).heap.size = A.heap.size := by simp [World.putObj]
        have := hg2.size
        have := q2.size
        omega
      · have e1 : (A.putObj (k + 1) (.loop { rec .ready none with state := .busy })).heap.size = A.heap.size := by simp [World.putObj]
        by_cases hik : i = k + 1
        · subst hik
          rw [hl3, World.putObj_heap_same hlt]
        · rw [World.putObj_heap_other hik]
          exact (q2.block i (by have := hg2.size; omega) (fun e => hik (by cases e; rfl))).trans (hg2.block i (by omega) (by simp))
     have hlt3 : k + 1 < A3.heap.size := (Array.getElem?_eq_some_iff.1 hl3).1
     clear hA3
     refine wpIn_mono (hbody (k + 1) pre x a' A3 hlt3 hi3 hx3 hlen) ?_
     have fin : ∀ (jump : Option Code) (C : World), C.heap[k + 1]? = some (.loop { rec .ready none with state := .busy }) → C.heap[k]? = some (.deferred (some [])) →
      (Instr.endRound (k + 1) jump).run P C = .ok (.bool jump.isNone) (C.putObj (k + 1) (.loop (rec (if jump.isNone then .ready else .done) jump))) ∧
      (C.putObj (k + 1) (.loop (rec (if jump.isNone then .ready else .done) jump))).heap[k + 1]? = some (.loop (rec (if jump.isNone then .ready else .done) jump)) ∧
      (C.putObj (k + 1) (.loop (rec (if jump.isNone then .ready else .done) jump))).heap[k]? = some (.deferred (some [])) := fun jump C hl4 hk4 => by
      have := run_endRound (P := P) jump hl4
      refine ⟨?_, World.putObj_heap_same (Array.getElem?_eq_some_iff.1 hl4).1, (World.putObj_heap_other (by omega)).trans hk4⟩
      rw [hrec] at this ⊢
      exact this
     rintro e a4 C hp
     cases e with
     | normal =>
      obtain ⟨hg4, hi4⟩ := hp
      obtain ⟨hr, hl5, hk5⟩ := fin none C ((hg4.block _ hlt3 (by simp)).trans hl3) ((hg4.block _ (by omega) (by simp)).trans hk3)
      refine ⟨_, _, hr, .inl ⟨rfl, ⟨hI.put hi4 _ (by omega), hl5, hk5⟩, ?_⟩⟩
      exact grown_put_put ⟨hg4.os.trans hg3.os, hg4.tape.trans hg3.tape, hg4.output.trans hg3.output, Nat.le_trans hg3.size hg4.size, fun i hi' hne => (hg4.block i (Nat.lt_of_lt_of_le hi' hg3.size) hne).trans (hg3.block i hi' hne)⟩
     | ret =>
      obtain ⟨hk4, hi4⟩ := hp
      obtain ⟨hr, hl5, hk5⟩ := fin (some .ret) C (hk4.same _ _ (by omega) hl3 rfl) (hk4.same _ _ (by omega) hk3 rfl)
      exact ⟨_, _, hr, .inr ⟨rfl, .ret, (hIx _).put hi4 _ (by omega), hl5, hk5⟩⟩
     | exit id =>
      obtain ⟨hk4, hi4⟩ := hp
      obtain ⟨hr, hl5, hk5⟩ := fin (some (.exit id)) C (hk4.same _ _ (by omega) hl3 rfl) (hk4.same _ _ (by omega) hk3 rfl)
      exact ⟨_, _, hr, .inr ⟨rfl, .exit id, (hIx _).put hi4 _ (by omega), hl5, hk5⟩⟩
     | goto t =>
      obtain ⟨hk4, hi4⟩ := hp
      obtain ⟨hr, hl5, hk5⟩ := fin (some (.goto t)) C (hk4.same _ _ (by omega) hl3 rfl) (hk4.same _ _ (by omega) hk3 rfl)
      exact ⟨_, _, hr, .inr ⟨rfl, .goto t, (hIx _).put hi4 _ (by omega), hl5, hk5⟩⟩
     | panic ch => exact hp.elim
     | outgrown => exact hp.elim
   · rintro e W2 ⟨⟨v, rfl⟩, (⟨xs, hS, hi, hl, hk⟩ | ⟨pre, hSp, c, hi, hl, hk⟩)⟩
     · exact ⟨none, _, by have := run_endLoop (P := P) hl (by rw [hrec]; simp); rw [hrec] at this; exact this, hdone k xs _ (Nat.le_refl _) hS (hI.put hi _ (by omega)) ((World.putObj_heap_other (by omega)).trans hk)⟩
     · exact ⟨some c, _, by have := run_endLoop (P := P) hl (by rw [hrec]; simp); rw [hrec] at this; exact this, hstop k c pre _ (Nat.le_refl _) hSp ((hIx c).put hi _ (by omega)) ((World.putObj_heap_other (by omega)).trans hk)⟩

theorem wpList_load_g {ops : Array Oper} {rest : List Oper} {op : Oper} {a : Act} {w : World} {Q : Exit → Act → World → Prop} (hw : Region.wanted op (yielded ops a.tmps) = true) (ty : TypeId) (x : Operand) (ho : op.op = .load ty x)
 (b o : Nat) (hx : a.eval x = .pointer (some ⟨b, o, none⟩)) (cs : List Value) (d : TypeDesc) (hc : w.rangeAt b o cs)
 (hu : P.underlying ty = some d) (hd : d.isRow = true) (hi : (P.info? ty).map (·.size) = some cs.length)
 (h : wpList P ops Q rest (a.put op.dst (.agg cs.toArray)) w) : wpList P ops Q (op :: rest) a w :=
 BigFrame.wpList_want hw fun _ hK => wp_load_mid ty x ho b o hx cs d hc hu hd hi (hK _ _ h)
end Go
namespace Go.Proofs.YtnonfdcbnkdmcaaGreatDoor
open Go.RowKit Go.Mem Go.Shelf
attribute [local go_sem] Oper.semAt_some

abbrev EA := Nat × (Nat → Nat)
def rB (f : Nat → Nat) : List Nat := (List.range 32).map fun i => f i % 256
theorem rB_length (f : Nat → Nat) : (rB f).length = 32 := by simp [rB]
theorem rB_dig (f : Nat → Nat) : (rB f).length = 32 ∧ ∀ u ∈ rB f, u < 256 := ⟨rB_length f, fun u hu => by
 obtain ⟨i, _, rfl⟩ := List.mem_map.1 hu
 exact Nat.mod_lt _ (by decide)⟩
theorem rB_fD {d : List Nat} (h : d.length = 32 ∧ ∀ u ∈ d, u < 256) : rB (fD d) = d := by
 have h1 := rD_fD h.1
 have h2 : rB (fD d) = rD (fD d) := by
  unfold rB rD
  refine List.map_congr_left fun i hi => Nat.mod_eq_of_lt ?_
  have hi' : i < d.length := by rw [h.1]; exact List.mem_range.1 hi
  unfold fD
  rw [List.getD_eq_getElem?_getD, List.getElem?_eq_getElem hi']
  exact h.2 _ (List.getElem_mem hi')
 rw [h2, h1]
abbrev encE (x : EA) : Array Value := #[.int .i64 x.1, .agg (bv (rB x.2)).toArray]
def endAt (fo : Int) (ds : List (List Nat)) (k : Nat) : List Nat := chainD fo (ds.take k)
def endsL (fo : Int) (ds : List (List Nat)) : List EA := (List.range (ds.length + 1)).map fun k => (k, fD (endAt fo ds k))
theorem endsL_len (fo : Int) (ds : List (List Nat)) : (endsL fo ds).length = ds.length + 1 := by simp [endsL]
theorem endsL_take {fo : Int} {ds : List (List Nat)} {k : Nat} (hk : k ≤ ds.length) : (endsL fo ds).take (k + 1) = (endsL fo ds).take k ++ [(k, fD (endAt fo ds k))] := by
 have hl : k < (endsL fo ds).length := by rw [endsL_len]; omega
 rw [List.take_succ_eq_append_getElem hl]
 simp [endsL]
theorem endAt_dig (fo : Int) (ds : List (List Nat)) (k : Nat) : (endAt fo ds k).length = 32 ∧ ∀ u ∈ endAt fo ds k, u < 256 := chain_len fo _
theorem endAt_succ {fo : Int} {ds : List (List Nat)} {k : Nat} {d : List Nat} (h : ds[k]? = some d) : endAt fo ds (k + 1) = Sha.chain (endAt fo ds k) d := by
 have hk := (List.getElem?_eq_some_iff.1 h).1
 unfold endAt chainD
 rw [List.take_succ_eq_append_getElem hk, List.foldl_append, (List.getElem?_eq_some_iff.1 h).2]
 rfl
theorem ds_nil (W : World) : DS W none 0 0 [] := ⟨rfl, Nat.le_refl _, by omega, fun _ => rfl, fun _ _ e => (by cases e), fun _ h => by cases h⟩

structure EndI (w0 W : World) (tb l : Nat) (fo : Int) (ds : List (List Nat)) (k : Nat) (wr : World) : Prop where
 blk : Blk wr tb 32 (bv (endAt fo ds k))
 bel : Below w0.heap.size w0 wr
 sz : W.heap.size ≤ tb
 lt : l < tb

set_option maxRecDepth 20000 in
set_option maxHeartbeats 4000000 in
theorem endsIter_in (l Bf Bs n c : Nat) (a : Option Addr) (fo : Int) (hfo : I64 fo) (ds : List (List Nat)) (J Jx : List EA → World → Prop) (w0 W : World)
 (HT : Tabs w0) (H : DS w0 a n c ds) (hbd : n ≤ 100000) (cf : w0.cell? ⟨Bf, 0, none⟩ = some (.int .i64 fo)) (cs : w0.cell? ⟨Bs, 0, none⟩ = some (.slice a n c)) (hBf : Bf < w0.heap.size) (hBs : Bs < w0.heap.size)
 (hW : Below w0.heap.size w0 W) (hl1 : l < W.heap.size) (hJ : Deaf W.heap.size J) (hl0 : w0.heap.size ≤ l)
 (hY : ∀ pre x A, J pre A → pre.length < ds.length + 1 → YieldAt Fence.wide 4 Tryz.prog l (encE x) A fun e C =>
   (e = .returned (.bool true) ∧ J (pre ++ [x]) C ∧ A.grownBy C (some l)) ∨ (e = .returned (.bool false) ∧ Jx (pre ++ [x]) C))
 (h0 : J [] W) :
 CallsIn Fence.wide 5 Tryz.prog 154 #[.func (.yield l) #[] #[], .pointer (some ⟨Bf, 0, none⟩), .pointer (some ⟨Bs, 0, none⟩)] W fun e C => (∃ v, e = .returned v) ∧
  ((∃ xs, xs = endsL fo ds ∧ J xs C) ∨ (∃ pre, pre <+: endsL fo ds ∧ Jx pre C)) := by
 have hlen := H.len
 have n63 : (n : Int) ≤ 100000 := by omega
 have H' := Lib.hid H; have HT' := Lib.hid HT
 clear H HT
 have hch := Lib.hid (fun W (hT : Tabs W) => callsIn_wide (n := 4).2 (storeChain_any fo hfo none 0 0 [] W hT (ds_nil W)))
 have e0 : chainD fo [] = endAt fo ds 0 := rfl
 rw [e0] at hch
 have cf1 := (hW.cell (p := ⟨Bf, 0, none⟩) hBf).trans cf
 refine callsIn_of_wp Tryz.func154 rfl trivial ?_ rfl
 simp only [Tryz.ntmps154, List.size_toArray, List.length_cons, List.length_nil, Nat.reduceAdd, Nat.reduceSub, Array.replicate_succ, Array.replicate_zero, List.push_toArray, List.append_toArray, List.nil_append, List.cons_append]
 gi_wp2_with fail
 refine ⟨trivial, (hch.out W (HT'.out.below hW)).mono ?_⟩
 rintro e w1 ⟨rfl, hb1⟩
 obtain ⟨W2, hP⟩ := put_dig (x := endAt fo ds 0) (Blk.new w1 32 (bv (List.replicate 32 0))) (by simp) (endAt_dig fo ds 0).1
 have hg1 : W.grownBy W2 none := ⟨hP.grown.os.trans hb1.os, hP.grown.tape.trans hb1.tape, hP.grown.output.trans hb1.output, Nat.le_trans hb1.size (Nat.le_trans (by simp) hP.grown.size), fun q hq _ => (hP.grown.block q (by simp; have := hb1.size; omega) (fun e => by cases e; have := hb1.size; omega)).trans ((Below.heap_alloc w1 _ q (by have := hb1.size; omega)).trans (hb1.block q hq))⟩
 have hJ2 := hJ.none h0 hg1
 have hI : Hid (EndI w0 W w1.heap.size l fo ds 0 W2) := ⟨hP.blk, hW.grown hg1 hW.size (fun _ e => by cases e), hb1.size, Nat.lt_of_lt_of_le hl1 hb1.size⟩
 generalize hRES : bv (endAt fo ds 0) = RES at hP ⊢
 have hP' := Lib.hid hP
 clear hP hb1 hg1 h0 cf1
 gi_wp2_with (first
  | (refine wpListIn_store_mid (by rfl) 32 (.tmp 4) (.tmp 7) (by rfl) w1.heap.size 0 RES.toArray (by rfl) (by rfl) hP'.out.there hP'.out.info (by simpa using hP'.out.one) ?_
     generalize hWq : World.setCells _ _ _ _ = Wa
     obtain rfl : W2 = Wa := by rw [← hWq]; exact hP'.out.eq
     clear hWq))
 clear hP' hRES
 generalize w1.heap.size = tb at *
 clear w1 hch
 gi_loopw [5] (fun i wr => ∃ k : Nat, k ≤ n ∧ i = .int .i64 k ∧ J ((endsL fo ds).take k) wr ∧ Hid (EndI w0 W tb l fo ds k wr)) (fun i _ => n - (intOf i).toNat)
 case atStart => exact ⟨0, Nat.zero_le _, rfl, hJ2, hI⟩
 case round =>
  obtain ⟨k, hk, rfl, hJs, hI⟩ := hrel
  have cs1 := (hI.out.bel.cell (p := ⟨Bs, 0, none⟩) hBs).trans cs
  have hr := hI.out.blk.range
  have hri : Hid ((Tryz.prog.info? 32).map (·.size) = some (bv (endAt fo ds k)).length) := by show _ = _; rw [bv_length, (endAt_dig fo ds k).1]; exact size35
  have hY1 := hY _ (k, fD (endAt fo ds k)) _ hJs (by rw [List.length_take, endsL_len]; omega)
  unfold encE at hY1
  rw [rB_fD (endAt_dig fo ds k), ← endsL_take (by omega)] at hY1
  obtain ⟨fn, tmps, assign, body, hy, hR⟩ := hY1
  have hR' := Lib.hid hR
  have hr' := Lib.hid hr
  clear hR hr hJs hJ2
  gi_wp2_with (first
   | (refine wpListIn_load_mid (by rfl) 32 (.tmp 4) (by rfl) tb 0 (by rfl) (bv (endAt fo ds k)) _ hr'.out Tryz.underlying32 (by rfl) hri.out ?_))
  refine hR'.out.mono ?_
  rintro e2 W3 (⟨rfl, hJ3, hk3⟩ | ⟨rfl, hJx3⟩)
  · have hI3 : Hid (EndI w0 W tb l fo ds k W3) := ⟨hI.out.blk.grown hk3 (fun e => by cases e; have := hI.out.lt; omega), hI.out.bel.grown hk3 hI.out.bel.size (fun r e => by cases e; exact hl0), hI.out.sz, hI.out.lt⟩
    have cs3 := (hI3.out.bel.cell (p := ⟨Bs, 0, none⟩) hBs).trans cs
    clear cs1 hr' hri hI hk3 hR'
    by_cases hlt : k < n
    · have hne : ((k : Int) == (n : Int)) = false := by simpa using (by omega : ¬ (k : Int) = (n : Int))
      gi_wp2_with fail
      refine wpIn_wide.2 ?_
      obtain ⟨E, hE⟩ : ∃ E, Hid (endAt fo ds k = E) := ⟨_, rfl⟩
      have hkl : k < ds.length := by omega
      have hd : ds[k]? = some ds[k] := List.getElem?_eq_getElem hkl
      have hS := H'.out
      have hax : a ≠ none := fun e => by have := H'.out.nil e; omega
      obtain ⟨ad, rfl⟩ := Option.ne_none_iff_exists'.1 hax
      obtain ⟨b, off, rfl, hb0, hc⟩ := hS.cells (by omega) _ rfl
      have hrg := hc k ds[k] hd
      obtain ⟨hd1, hd2⟩ := hS.ok ds[k] (List.getElem_mem hkl)
      have hE2 := Lib.hid (endAt_succ (fo := fo) hd)
      generalize ds[k] = d at *
      have hrg2 : Hid (W3.rangeAt b (off + k * 32) (bv d)) := fun j v hv => (hI3.out.bel.cell (p := ⟨b, _, none⟩) hb0).trans (hrg j v (by simpa using hv) |> fun q => by rw [Nat.mul_comm k 32]; exact q)
      have k0 : (0 : Int) ≤ (k : Int) := by omega
      have k1 : (k : Int) < (n : Int) := by omega
      clear hrg hc hS hkl hax hd hE
      refine wp_region_held_drew (S := fun wz => Below w0.heap.size W3 wz) (by kernel_rfl) (((Below.refl _ W3).drew : Below w0.heap.size W3 W3.drew)) (fun hHeld => ?_)
      refine tk (i := 1) (oi := _) (v := ?_) rfl (Or.inl ⟨by rfl, ?_⟩) hHeld ?_
      rotate_left
      · intro wz hSw
        have q := (hSw.cell (p := ⟨Bs, 0, none⟩) hBs).trans cs3
        go_simp
        all_goals (with_reducible rfl)
      try simp only [Act.put, List.setIfInBounds_toArray]
      refine tk (i := 2) (oi := _) (v := ?_) rfl (Or.inl ⟨by rfl, ?_⟩) hHeld ?_
      rotate_left
      · intro wz hSw
        go_simp
        all_goals (with_reducible rfl)
      try simp only [Act.put]
      refine tk (i := 3) (oi := _) (v := ?_) rfl (Or.inl ⟨by rfl, ?_⟩) hHeld ?_
      rotate_left
      · intro wz hSw
        go_simp
        all_goals (with_reducible rfl)
      try simp only [Act.put]
      refine tk (i := 4) (oi := _) rfl (yieldsIf_load_mid (by rfl) _ _ rfl b (off + k * 32) rfl (bv d) _ (fun wz h => fun j v hv => (h.cell (p := ⟨b, _, none⟩) hb0).trans (hrg2.out j v hv)) Tryz.underlying32 rfl (by rw [bv_length, hd1]; exact size35)) hHeld ?_
      try simp only [Act.put]
      refine Go.rd (rs := [0]) ?_
      refine Go.rc (o := _) rfl (fun K hK => ?_) Go.rn
      refine wp_load_mid 32 _ rfl tb 0 rfl (bv (endAt fo ds k)) _ hI3.out.blk.range Tryz.underlying32 rfl (by rw [bv_length, (endAt_dig fo ds k).1]; exact size35) ?_
      refine hK.out _ _ hHeld (fun hHeld => ?_)
      clear hK K
      try simp only [Act.put]
      refine Go.rd (rs := [5]) ?_
      refine Go.rc (o := _) rfl (fun K hK => ?_) Go.rn
      go_simp
      go_at_call 124
      refine (chain_any (endAt fo ds k) d _ (HT'.out.below hI3.out.bel.drew) (endAt_dig fo ds k).1 hd1 (endAt_dig fo ds k).2 hd2).mono ?_
      rintro e W4 ⟨rfl, hb4⟩
      have hb5 : Below W3.heap.size W3 W4 := (Below.refl _ W3).drew.trans hb4
      rw [← hE2.out]
      refine hK.out _ _ (hb5.mono hI3.out.bel.size) (fun hHeld => ?_)
      clear hK K
      try simp only [Act.put, sA, s0, s1]
      obtain ⟨W5, hP⟩ := put_dig (x := endAt fo ds (k + 1)) (hI3.out.blk.below hb5 hI3.out.blk.lt) (endAt_dig fo ds k).1 (endAt_dig fo ds (k + 1)).1
      have hg5 : W3.grownBy W5 (some tb) := ⟨hP.grown.os.trans hb5.os, hP.grown.tape.trans hb5.tape, hP.grown.output.trans hb5.output, Nat.le_trans hb5.size hP.grown.size, fun q hq hne => (hP.grown.block q (Nat.lt_of_lt_of_le hq hb5.size) hne).trans (hb5.block q hq)⟩
      have hJ5 : J ((endsL fo ds).take (k + 1)) W5 := hJ _ _ _ _ hJ3 hg5 (fun r e => by cases e; exact hI3.out.sz)
      have hI5 : Hid (EndI w0 W tb l fo ds (k + 1) W5) := ⟨hP.blk, hI3.out.bel.grown hg5 hI3.out.bel.size (fun r e => by cases e; have := hI3.out.lt; omega), hI3.out.sz, hI3.out.lt⟩
      refine Go.rd (rs := [6]) ?_
      refine Go.rc (o := _) rfl (fun K hK => ?_) Go.rn
      refine wp_store_mid 32 _ _ rfl tb 0 (bv (endAt fo ds (k + 1))).toArray (by rfl) (by rfl) hP.there hP.info (by simpa using hP.one) ?_
      generalize hWq : World.setCells _ _ _ _ = Wa
      obtain rfl : W5 = Wa := by rw [← hWq]; exact hP.eq
      clear hWq
      refine hK.out _ _ ((Below.refl w0.heap.size W3).grown hg5 hI3.out.bel.size (fun r e => by cases e; have := hI3.out.lt; omega)) (fun hHeld => ?_)
      clear hK K
      try simp only [Act.put, List.setIfInBounds_toArray]
      refine wpAnyH_done (by kernel_rfl) ?_ _
      gi_wp2_with fail
      go_roundw
      case rel => exact ⟨k + 1, by omega, by go_num, hJ5, hI5⟩
      case measure => simp [intOf]; omega
    · obtain rfl : k = n := by omega
      have hJ4 : J (endsL fo ds) W3 := by rw [List.take_of_length_le (by rw [endsL_len]; omega)] at hJ3; exact hJ3
      gi_wp2_with fail
      refine bodyPost_ret (results_none rfl _ _ _) rfl ?_
      exact ⟨⟨_, rfl⟩, .inl ⟨_, rfl, hJ4⟩⟩
  · clear cs1 hr' hri hI hR'
    gi_wp2_with fail
    refine bodyPost_ret (results_none rfl _ _ _) rfl ?_
    exact ⟨⟨_, rfl⟩, .inr ⟨_, List.take_prefix _ _, hJx3⟩⟩
end Go.Proofs.YtnonfdcbnkdmcaaGreatDoor
namespace Go.Proofs.YtnonfdcbnkdmcaaGreatDoor
open Go.RowKit Go.Mem Go.Shelf
open Go.Vw (Hd fitsB)
attribute [local go_sem] Oper.semAt_some

def hdC (h : Hd) : List Value := headC h.st h.fo h.no h.ch h.R h.S
structure OkH (h : Hd) : Prop where
 st : I64 h.st
 fo : I64 h.fo
 no : I64 h.no
 R : I64 h.R
 S : I64 h.S
 ch : h.ch.length = 32 ∧ ∀ u ∈ h.ch, u < 256
theorem hdC_r {h : Hd} (ok : OkH h) : HeadR h.st h.fo h.no h.R h.S h.ch (hdC h) := ⟨rfl, ok.ch.1⟩

theorem headR_ch {st fo no R S : Int} {D : List Nat} {r : List Value} (h : HeadR st fo no R S D r) {W : World} {g : Nat} {t : TypeId} (hB : Blk W g t r) : W.rangeAt g 3 (bv D) := fun j v hv => by
 refine hB.at_ ?_
 rw [← h.eq]
 unfold headC
 have hj := (List.getElem?_eq_some_iff.1 hv).1
 rw [List.getElem?_append_right (by simp), List.getElem?_append_left (by simp; omega)]
 simpa using hv
theorem ends_any (fo : Int) (a : Option Addr) (n c : Nat) (w : World) :
 Calls Tryz.prog 101 #[.int .i64 fo, .slice a n c] w fun e w' => e = .returned (.func (.func 154) #[] #[.pointer (some ⟨w.heap.size, 0, none⟩), .pointer (some ⟨w.heap.size + 1, 0, none⟩)]) ∧ w' = (w.alloc (.cells #[.int .i64 fo] 3)).alloc (.cells #[.slice a n c] 47) := by
 go_enter Tryz.func101, Tryz.ntmps101
 go_wp2_with fail
 go_ret
 exact ⟨rfl, rfl⟩

theorem fits_at {h : Hd} {ds : List (List Nat)} {pre : List EA} {x : EA} (hp : pre <+: endsL h.fo ds) (hl : pre.getLast? = some x) (hn : (x.1 : Int) = h.no) : fitsB h ds = decide (rB x.2 = h.ch) := by
 have hx : x ∈ endsL h.fo ds := hp.subset (List.mem_of_getLast? hl)
 unfold endsL at hx
 obtain ⟨k, hk, rfl⟩ := List.mem_map.1 hx
 have hk' := List.mem_range.1 hk
 have hn' : (k : Int) = h.no := hn
 unfold fitsB
 rw [← hn', decide_eq_true ⟨by omega, by omega⟩, Bool.true_and, Int.toNat_natCast]
 show _ = decide (rB (fD (endAt h.fo ds k)) = h.ch)
 rw [rB_fD (endAt_dig _ _ _)]
 rfl
theorem fits_none {h : Hd} {ds : List (List Nat)} (hn : ∀ x ∈ endsL h.fo ds, (x.1 : Int) ≠ h.no) : fitsB h ds = false := by
 unfold fitsB
 rw [Bool.and_eq_false_imp]
 intro h1
 have h2 := of_decide_eq_true h1
 exfalso
 refine hn (h.no.toNat, fD (endAt h.fo ds h.no.toNat)) ?_ (by simp; omega)
 unfold endsL
 exact List.mem_map.2 ⟨_, List.mem_range.2 (by omega), rfl⟩

def FitX (wL : World) (rb : Nat) (no : Int) (ch : List Nat) (c : Code) (pre : List EA) (W : World) : Prop :=
 c = .ret ∧ ∃ x, pre.getLast? = some x ∧ (x.1 : Int) = no ∧ Blk W rb 4 [.bool (decide (rB x.2 = ch))] ∧ wL.grownBy W (some rb)
def FitI (wL : World) (no : Int) (pre : List EA) (W : World) : Prop := (∀ x ∈ pre, (x.1 : Int) ≠ no) ∧ Below wL.heap.size wL W
theorem fitI_deaf (wL : World) (no : Int) : Deaf wL.heap.size (FitI wL no) := (deaf_pure _ _).and (deaf_below (Nat.le_refl _) (Nat.le_refl _))
theorem fitX_deaf (wL : World) (rb : Nat) (hrb : rb < wL.heap.size) (no : Int) (ch : List Nat) (c : Code) : Deaf wL.heap.size (FitX wL rb no ch c) := by
 rintro s A C row ⟨hc, x, h1, h2, h3, h4⟩ hg hr
 refine ⟨hc, x, h1, h2, h3.grown hg (fun e => by have := hr _ e.symm; omega), hg.os.trans h4.os, hg.tape.trans h4.tape, hg.output.trans h4.output, Nat.le_trans h4.size hg.size, fun i hi hne => ?_⟩
 exact (hg.block i (Nat.lt_of_lt_of_le hi h4.size) (fun e => by have := hr _ e.symm; omega)).trans (h4.block i hi hne)
set_option maxRecDepth 20000 in
set_option maxHeartbeats 4000000 in
theorem fits_any (h : Hd) (ok : OkH h) (a : Option Addr) (n c : Nat) (ds : List (List Nat)) (w : World) (HT : Tabs w) (H : DS w a n c ds) (hbd : n ≤ 100000) :
 Calls Tryz.prog 59 #[.agg (hdC h).toArray, .slice a n c] w (RetBo (fitsB h ds) w) := by
 have H' := Lib.hid H; have HT' := Lib.hid HT
 have hr := hdC_r ok
 clear H HT
 have hnone := Lib.hid (fits_none (h := h) (ds := ds))
 have hat := Lib.hid (fun pre x => fits_at (h := h) (ds := ds) (pre := pre) (x := x))
 obtain ⟨B0, hB0⟩ : ∃ B, Hid (fitsB h ds = B) := ⟨_, rfl⟩
 rw [hB0.out] at hnone hat ⊢
 obtain ⟨tb, htb⟩ : ∃ tb, Hid (w.heap.size = tb) := ⟨_, rfl⟩
 obtain ⟨r, hre⟩ : ∃ r, Hid (hdC h = r) := ⟨_, rfl⟩
 rw [hre.out] at hr ⊢
 obtain ⟨W1, hW1⟩ : ∃ W1, W1 = (w.alloc (.cells r.toArray 36)).alloc (.cells #[.bool false] 4) := ⟨_, rfl⟩
 refine callsIn_wide (n := 6).1 ?_
 refine callsIn_of_wp_marks Tryz.func59 rfl trivial ?_ rfl
 simp only [Tryz.ntmps59, List.size_toArray, List.length_cons, List.length_nil, Nat.reduceAdd, Nat.reduceSub, Array.replicate_succ, Array.replicate_zero, List.push_toArray, List.append_toArray, List.nil_append, List.cons_append]
 have r1 := hr.at0.2.1
 gi_wp2_with fail
 refine ⟨trivial, (callsIn_wide.2 (ends_any h.fo a n c _)).mono ?_⟩
 rintro e w' ⟨rfl, rfl⟩
 clear r1
 gi_wp2_with fail
 rw [htb.out]
 generalize hwL : (((w.alloc _).alloc _).alloc _).alloc _ = wL
 have hsz : wL.heap.size = tb + 4 := by rw [← hwL, ← htb.out]; simp
 have hbL : Below w.heap.size w wL := by rw [← hwL]; exact ((((Below.refl _ w).alloc (Nat.le_refl _) _).alloc (by simp) _).alloc (by simp; omega) _).alloc (by simp; omega) _
 have hBh : Blk wL tb 36 r := by rw [← hwL, ← htb.out]; exact (((Blk.new w _ _).alloc _).alloc _).alloc _
 have hBr : Blk wL (tb + 1) 4 [.bool false] := by
  rw [← hwL, ← htb.out]
  have := ((Blk.new (w.alloc (.cells r.toArray 36)) 4 [.bool false]).alloc (.cells #[.int .i64 h.fo] 3)).alloc (.cells #[.slice a n c] 47)
  rwa [World.size_alloc] at this
 have hBf : Blk wL (tb + 1 + 1) 3 [.int .i64 h.fo] := by
  rw [← hwL, ← htb.out]
  have := (Blk.new ((w.alloc (.cells r.toArray 36)).alloc (.cells #[.bool false] 4)) 3 [.int .i64 h.fo]).alloc (.cells #[.slice a n c] 47)
  rwa [World.size_alloc, World.size_alloc] at this
 have hBs : Blk wL (tb + 1 + 1 + 1) 47 [.slice a n c] := by
  rw [← hwL, ← htb.out]
  have := Blk.new (((w.alloc (.cells r.toArray 36)).alloc (.cells #[.bool false] 4)).alloc (.cells #[.int .i64 h.fo] 3)) 47 [.slice a n c]
  rwa [World.size_alloc, World.size_alloc, World.size_alloc] at this
 clear hwL hW1 W1
 have hseq : SeqOwn Fence.wide 5 Tryz.prog 154 #[.pointer (some ⟨tb + 1 + 1, 0, none⟩), .pointer (some ⟨tb + 1 + 1 + 1, 0, none⟩)] encE (fun xs => xs = endsL h.fo ds) (fun pre => pre <+: endsL h.fo ds) (ds.length + 1) wL :=
  fun l J Jx W hW hl0 hl1 hJ hY h0 => endsIter_in l (tb + 1 + 1) (tb + 1 + 1 + 1) n c a h.fo ok.fo ds J Jx wL W (HT'.out.below hbL) (H'.out.below hbL) hbd (hBf.at_ (i := 0) rfl) (hBs.at_ (i := 0) rfl) hBf.lt hBs.lt hW hl1 hJ hl0 hY h0
 have hri : Hid ((Tryz.prog.info? 32).map (·.size) = some (bv h.ch).length) := by show _ = _; rw [bv_length, ok.ch.1]; exact size35
 refine wpIn_range_own rfl (by omega) (gf := 154) (lb := #[.pointer (some ⟨tb + 1 + 1, 0, none⟩), .pointer (some ⟨tb + 1 + 1 + 1, 0, none⟩)]) rfl trivial (enters_of Tryz.func154 (by kernel_rfl) rfl)
  hseq (fun _ => rfl) (FitI wL h.no) (FitX wL (tb + 1) h.no h.ch) (fitI_deaf _ _) (fun c => fitX_deaf _ _ (by omega) _ _ c) ⟨(fun _ h => by cases h), Below.refl _ _⟩
  (fun x a' W => ∃ q, a' = { tmps := #[.agg r.toArray, .slice a n c, .pointer (some ⟨tb, 0, none⟩), undef, .pointer (some ⟨tb + 1, 0, none⟩), .int .i64 x.1, .pointer (some ⟨q, 0, none⟩), .pointer (some ⟨tb, 1, none⟩), .int .i64 h.fo, .slice a n c, .func (.func 154) #[] #[.pointer (some ⟨tb + 1 + 1, 0, none⟩), .pointer (some ⟨tb + 1 + 1 + 1, 0, none⟩)], .int .i64 x.1, .agg (bv (rB x.2)).toArray, undef, undef, undef, undef, undef, undef, undef, undef], defers := [] } ∧ Blk W q 32 (bv (rB x.2)))
  (fun x a' A C l rc hx hl hg => by
    obtain ⟨q, e, hq⟩ := hx
    exact ⟨q, e, hq.grown hg (fun e => by cases e; rw [show A.heap[_]? = _ from hq] at hl; cases hl)⟩) ?assign ?body ?done ?stop
 case assign =>
  rintro l pre x A K hI hK
  obtain ⟨W2, hP⟩ := put_dig (x := rB x.2) (Blk.new A 32 (bv (List.replicate 32 0))) (by simp) (rB_length x.2)
  have hgw : A.grownBy W2 none := ⟨hP.grown.os, hP.grown.tape, hP.grown.output, Nat.le_trans (by simp) hP.grown.size, fun q hq _ => (hP.grown.block q (by simp; omega) (fun e => by cases e; omega)).trans (Below.heap_alloc A _ q hq)⟩
  have hfin := Lib.hid (fun a' h => hK a' W2 hgw ⟨A.heap.size, h, hP.blk⟩)
  have hP' := Lib.hid hP
  clear hP hK hgw
  gi_wp2_with (first
   | (refine wpListIn_store_mid (by rfl) 32 (.tmp 6) (.tmp 12) (by rfl) A.heap.size 0 (bv (rB x.2)).toArray (by rfl) (by rfl) hP'.out.there hP'.out.info (by simpa using hP'.out.one) ?_
      generalize hWq : World.setCells _ _ _ _ = Wa
      obtain rfl : W2 = Wa := by rw [← hWq]; exact hP'.out.eq
      clear hWq))
  exact hfin.out _ rfl
 case body =>
  rintro l pre x a' A hA hI ⟨q, rfl, hq⟩ hlen
  have hBa := hBh.below hI.2 hBh.lt
  have c2 := hBa.at_ hr.at0.2.2
  by_cases hx : (x.1 : Int) = h.no
  · have hx' : ((x.1 : Int) == h.no) = true := by simpa using hx
    have hqr := Lib.hid hq.range
    have hcr := Lib.hid (headR_ch hr hBa)
    have hqi : Hid ((Tryz.prog.info? 32).map (·.size) = some (bv (rB x.2)).length) := by show _ = _; rw [bv_length, rB_length]; exact size35
    have heq : ∀ W, (Op.equalIn 10000 32 (.agg (bv (rB x.2)).toArray) (.agg (bv h.ch).toArray)).run Tryz.prog W = .ok (decide (rB x.2 = h.ch)) W := fun W => eq_dig (rB_dig x.2) ok.ch W
    have hBr' := hBr.below hI.2 hBr.lt
    have cr := hBr'.at_ (i := 0) rfl
    have cf := hBr'.frozen 0
    have hfin : Hid (roundLeft wL.heap.size (FitI wL h.no) (FitX wL (tb + 1) h.no h.ch) (pre ++ [x]) A .ret { tmps := #[], defers := [] } (A.setCell ⟨tb + 1, 0, none⟩ (.bool (decide (rB x.2 = h.ch))))) := by
     have hg : A.grownBy (A.setCell ⟨tb + 1, 0, none⟩ (.bool (decide (rB x.2 = h.ch)))) (some (tb + 1)) := grown_set (World.grownBy.refl A _) (.inl rfl) _
     refine ⟨KeepsFrom.of_grownBy hg (fun j e => by cases e; omega), rfl, x, by simp, hx, hBr'.set 0 _, ?_⟩
     exact ⟨hg.os.trans hI.2.os, hg.tape.trans hI.2.tape, hg.output.trans hI.2.output, Nat.le_trans hI.2.size hg.size, fun i hi hne => (hg.block i (Nat.lt_of_lt_of_le hi hI.2.size) hne).trans (hI.2.block i hi)⟩
    have hu := Tryz.underlying32
    clear hx hq hBa hI hBr' hnone hat hseq
    generalize bv (rB x.2) = D1 at *
    generalize bv h.ch = D2 at *
    generalize decide (rB x.2 = h.ch) = v at *
    gi_wp2_with (first
     | (refine wpListIn_load_mid (by rfl) 32 (.tmp 6) (by rfl) q 0 (by rfl) D1 _ hqr.out hu (by rfl) hqi.out ?_)
      | (refine wpListIn_load_mid (by rfl) 32 (.tmp 18) (by rfl) tb 3 (by rfl) D2 _ hcr.out hu (by rfl) hri.out ?_))
    exact hfin.out
  · have hx' : ((x.1 : Int) == h.no) = false := by simpa using hx
    have hfin : Hid (A.grownBy A none ∧ FitI wL h.no (pre ++ [x]) A) := ⟨World.grownBy.refl A none, (fun y hy => by
     rcases List.mem_append.1 hy with hy | hy
     · exact hI.1 y hy
     · rw [List.mem_singleton] at hy; rw [hy]; exact hx), hI.2⟩
    clear hx
    gi_wp2_with fail
    exact hfin.out
 case done =>
  rintro D xs W hD rfl ⟨hne, hB⟩ hK
  have hres := hnone.out hne
  have hBr' := hBr.below hB hBr.lt
  have cr := hBr'.at_ (i := 0) rfl
  have cf := hBr'.frozen 0
  have hK' : (W.setCell ⟨tb + 1, 0, none⟩ (.bool false)).heap[D]? = some (.deferred (some [])) := (Below.heap_setCell W ⟨tb + 1, 0, none⟩ _ _ (by show D ≠ tb + 1; omega)).trans hK
  have hB2 := (hBr'.set 0 (.bool false)).grown (grownBy_putObj' _ D (.deferred none)) (fun e => by cases e; omega)
  have hc5 := hB2.at_ (i := 0) rfl
  have hbf : Hid (Below w.heap.size w ((W.setCell ⟨tb + 1, 0, none⟩ (.bool false)).putObj D (.deferred none))) := by
   refine ((hbL.trans (hB.mono hbL.size)).setCell (by show w.heap.size ≤ tb + 1; rw [htb.out]; omega) _).grown (grownBy_putObj' _ D _) ?_ (fun k e => by cases e; have := htb.out; omega)
   have := hB.size; have := htb.out; simp [World.setCell]; omega
  clear hne hnone hat hseq hB hBr hB2
  gi_wp2_with fail
  refine ⟨by simp, .inl ⟨_, _, rfl, run_takeDeferred hK', .bool false, ?_, by rw [hres], hbf.out⟩⟩
  simp [results, Tryz.f59, go_sem, hc5]
 case stop =>
  rintro D c pre W hD hp ⟨rfl, x, hl, hn, hB, hg⟩ hK
  have hres := hat.out pre x hp hl hn
  have hB2 := hB.grown (grownBy_putObj' _ D (.deferred none)) (fun e => by cases e; omega)
  have hc5 := hB2.at_ (i := 0) rfl
  have hbf : Hid (Below w.heap.size w (W.putObj D (.deferred none))) := by
   refine (hbL.grown hg hbL.size (fun k e => by cases e; have := htb.out; omega)).grown (grownBy_putObj' _ D _) ?_ (fun k e => by cases e; have := htb.out; omega)
   have := hg.size; have := htb.out; omega
  rw [hres]
  generalize decide (rB x.2 = h.ch) = v at *
  clear hnone hat hseq hres hB hg hB2
  gi_wp2_with fail
  refine ⟨by simp, .inl ⟨_, _, rfl, run_takeDeferred hK, .bool v, ?_, rfl, hbf.out⟩⟩
  simp [results, Tryz.f59, go_sem, hc5]
end Go.Proofs.YtnonfdcbnkdmcaaGreatDoor
namespace Go.Proofs.YtnonfdcbnkdmcaaGreatDoor
open Go.RowKit Go.Mem Go.Shelf
open Go.Vw (Hd fitsB oddP oddI)

def HV (_ : World) (h : Hd) (r : List Value) : Prop := OkH h ∧ r = hdC h
structure HS (w : World) (a : Option Addr) (n c : Nat) (l : List Hd) : Prop where
 rs : RS 37 HV (fun _ => True) w a n c l
 bd : n ≤ 100000
theorem HS.below {w w' : World} {a : Option Addr} {n c : Nat} {l : List Hd} (h : HS w a n c l) (hb : Below w.heap.size w w') : HS w' a n c l := ⟨h.rs.keep (.below hb) fun _ _ hr => hr, h.bd⟩
theorem HS.nil0 (w : World) : HS w none 0 0 [] := ⟨.nil0 _ _ w, Nat.zero_le _⟩
theorem HS.get {w : World} {a : Option Addr} {n c : Nat} {l : List Hd} (H : HS w a n c l) {k : Nat} {h : Hd} (he : l[k]? = some h) : ∃ b off, a = some ⟨b, off, none⟩ ∧ b < w.heap.size ∧ OkH h ∧ w.rangeAt b (off + k * 37) (hdC h) := by
 obtain ⟨b, off, r, ea, hb, _, ⟨ho, er⟩, _, hr⟩ := H.rs.get he
 subst er
 exact ⟨b, off, ea, hb, ho, hr⟩
theorem hdC_len {h : Hd} (ok : OkH h) : (hdC h).length = 37 := (hdC_r ok).len
theorem infoHd {h : Hd} (ok : OkH h) : Hid ((Tryz.prog.info? 36).map (·.size) = some (hdC h).length) := by show _ = _; rw [hdC_len ok]; exact sizeH
theorem hdC_2 (h : Hd) : (hdC h)[2]? = some (.int .i64 h.no) := rfl

set_option maxRecDepth 20000 in
set_option maxHeartbeats 1000000 in
theorem odd1_any (h : Hd) (ok : OkH h) (pb n c : Nat) (a : Option Addr) (ds : List (List Nat)) (w : World) (HT : Tabs w) (H : DS w a n c ds) (hbd : n ≤ 100000) (hp : pb < w.heap.size) (hc : w.cell? ⟨pb, 0, none⟩ = some (.slice a n c)) :
 Calls Tryz.prog 149 #[.agg (hdC h).toArray, .pointer (some ⟨pb, 0, none⟩)] w (RetBo (oddP ds h) w) := by
 have H' := Lib.hid H; have HT' := Lib.hid HT
 have hlen := H.len
 clear H HT
 have hri := infoHd ok
 have hfit := Lib.hid (fun W (hT : Tabs W) (hS : DS W a n c ds) => fits_any h ok a n c ds W hT hS hbd)
 have ho : oddP ds h = (decide (h.no ≤ (n : Int)) && !fitsB h ds) := by unfold oddP; rw [hlen]
 rw [ho]
 clear ho
 have h2 := hdC_2 h
 have hr := (Blk.new w 36 (hdC h)).range
 have hr' := Lib.hid hr
 have hb : Hid (Below w.heap.size w (w.alloc (.cells (hdC h).toArray 36))) := (Below.refl _ w).alloc (Nat.le_refl _) _
 have hc1 : (w.alloc (.cells (hdC h).toArray 36)).cell? ⟨pb, 0, none⟩ = some (.slice a n c) := (hb.out.cell (p := ⟨pb, 0, none⟩) hp).trans hc
 have n0 : (0 : Int) ≤ (n : Int) := by omega
 generalize fitsB h ds = v at *
 generalize hdC h = r at *
 clear hr hc
 by_cases hno : h.no ≤ (n : Int)
 · have hd : decide (h.no ≤ (n : Int)) = true := decide_eq_true hno
   rw [hd, Bool.true_and]
   clear hno
   go_enter Tryz.func149, Tryz.ntmps149
   go_wp2_with (first
    | (refine wpList_load_g (by rfl) 36 _ (by rfl) w.heap.size 0 (by rfl) r _ hr'.out Tryz.underlying36 (by rfl) hri.out ?_))
   refine (hfit.out _ (HT'.out.below hb.out) (H'.out.below hb.out)).mono ?_
   rintro e w2 ⟨rfl, hb2⟩
   have hfin := Lib.hid (hb.out.trans (hb2.mono hb.out.size))
   clear hb2 hr' hb
   go_wp2_with fail
   go_ret
   exact ⟨rfl, hfin.out⟩
 · have hd : decide (h.no ≤ (n : Int)) = false := decide_eq_false hno
   rw [hd, Bool.false_and]
   clear hno
   go_enter Tryz.func149, Tryz.ntmps149
   go_wp2_with fail
   go_ret
   exact ⟨rfl, hb.out⟩

def oddN (hs : List Hd) (ds : List (List Nat)) : Int := if oddI hs ds < hs.length then oddI hs ds else -1
theorem oddN_at {hs : List Hd} {ds : List (List Nat)} {i : Nat} {h : Hd} (hh : hs[i]? = some h) (hd : oddP ds h = true) (hn : ∀ (j : Nat) x, j < i → hs[j]? = some x → oddP ds x = false) : oddN hs ds = i ∧ oddI hs ds = i := by
 have hi := (List.getElem?_eq_some_iff.1 hh).1
 have h1 : oddI hs ds = i := by
  have a1 : oddI hs ds ≤ i := by
   refine Nat.le_of_not_lt fun hlt => ?_
   have := List.not_of_lt_findIdx (p := oddP ds) (xs := hs) hlt
   rw [show hs[i] = h from Option.some.inj ((List.getElem?_eq_getElem hi).symm.trans hh)] at this
   rw [hd] at this
   simp at this
  refine Nat.le_antisymm a1 (Nat.le_of_not_lt fun hlt => ?_)
  have hl : oddI hs ds < hs.length := by omega
  have := List.findIdx_getElem (p := oddP ds) (w := hl)
  have h2 := hn _ hs[oddI hs ds] hlt (List.getElem?_eq_getElem hl)
  unfold oddI at h2
  rw [h2] at this
  cases this
 refine ⟨?_, h1⟩
 unfold oddN
 rw [h1, if_pos hi]
theorem oddN_none {hs : List Hd} {ds : List (List Nat)} (hn : ∀ (j : Nat) x, hs[j]? = some x → oddP ds x = false) : oddN hs ds = -1 := by
 unfold oddN
 rw [if_neg]
 intro hl
 have := List.findIdx_getElem (p := oddP ds) (w := hl)
 have h2 := hn _ hs[oddI hs ds] (List.getElem?_eq_getElem hl)
 unfold oddI at h2
 rw [h2] at this
 cases this

set_option maxRecDepth 20000 in
set_option maxHeartbeats 1000000 in
theorem indexH_any (a : Option Addr) (n c : Nat) (l : List Hd) (pb da dn dc : _) (ds : List (List Nat)) (w : World) (HT : Tabs w) (H : HS w a n c l) (HD : DS w da dn dc ds) (hbd : dn ≤ 100000) (hp : pb < w.heap.size) (hc : w.cell? ⟨pb, 0, none⟩ = some (.slice da dn dc)) :
 Calls Tryz.prog 148 #[.slice a n c, .func (.func 149) #[] #[.pointer (some ⟨pb, 0, none⟩)]] w (RetI (oddN l ds) w) := by
 have hlen := H.rs.len
 have hnb := H.bd
 have n63 : (n : Int) ≤ 100000 := by omega
 have H' := Lib.hid H; have HD' := Lib.hid HD; have HT' := Lib.hid HT; have hc' := Lib.hid hc
 clear H HD HT hc
 go_enter Tryz.func148, Tryz.ntmps148
 go_wp2_with fail
 go_loopw [8] (fun i wr => ∃ k : Nat, k ≤ n ∧ i = .int .i64 k ∧ Hid (∀ (j : Nat) x, j < k → l[j]? = some x → oddP ds x = false) ∧ Hid (Below w.heap.size w wr)) (fun i _ => n - (intOf i).toNat)
 case atStart => exact ⟨0, Nat.zero_le _, rfl, fun _ _ h => absurd h (by omega), Below.refl _ _⟩
 case round =>
  obtain ⟨k, hk, rfl, hno, hb⟩ := hrel
  by_cases hlt : k < n
  · have hkl : k < l.length := by omega
    obtain ⟨h, he⟩ : ∃ h, l[k]? = some h := ⟨_, List.getElem?_eq_getElem hkl⟩
    obtain ⟨b, off, rfl, hbl, ok, hrg⟩ := (H'.out.below hb.out).get he
    have hri := infoHd ok
    have hrg' := Lib.hid hrg
    have hcl := Lib.hid (odd1_any h ok pb dn dc da ds wr (HT'.out.below hb.out) (HD'.out.below hb.out) hbd (Nat.lt_of_lt_of_le hp hb.out.size) ((hb.out.cell (p := ⟨pb, 0, none⟩) hp).trans hc'.out))
    have he' := Lib.hid he
    have k0 : (0 : Int) ≤ (k : Int) := by omega
    have k1 : (k : Int) < (n : Int) := by omega
    clear he hrg ok
    cases hde : oddP ds h with
    | true =>
     rw [hde] at hcl
     have hfin : Hid (oddN l ds = (k : Int)) := (oddN_at he'.out hde hno.out).1
     clear hde hno
     generalize hdC h = r at *
     go_wp2_with (first
      | (refine wpList_load_mid (by rfl) 36 _ (by rfl) b (off + k * 37) (by rfl) r _ hrg'.out Tryz.underlying36 (by rfl) hri.out ?_))
     refine hcl.out.mono ?_
     rintro e2 w2 ⟨rfl, hb2⟩
     go_wp2_with fail
     go_ret
     exact ⟨by rw [hfin.out]; rfl, hb.out.trans (hb2.mono hb.out.size)⟩
    | false =>
     rw [hde] at hcl
     have hno2 : Hid (∀ (j : Nat) x, j < k + 1 → l[j]? = some x → oddP ds x = false) := fun j x hj hx => by
      by_cases hjk : j = k
      · subst hjk; rw [he'.out] at hx; cases hx; exact hde
      · exact hno.out j x (by omega) hx
     clear hde hno
     generalize hdC h = r at *
     go_wp2_with (first
      | (refine wpList_load_mid (by rfl) 36 _ (by rfl) b (off + k * 37) (by rfl) r _ hrg'.out Tryz.underlying36 (by rfl) hri.out ?_))
     refine hcl.out.mono ?_
     rintro e2 w2 ⟨rfl, hb2⟩
     have hb3 := Lib.hid (hb.out.trans (hb2.mono hb.out.size))
     go_wp2_with fail
     go_roundw
     case rel => exact ⟨k + 1, by omega, by go_num, hno2, hb3⟩
     case measure => simp [intOf]; omega
  · obtain rfl : k = n := by omega
    have hfin : Hid (oddN l ds = -1) := oddN_none fun j x hx => hno.out j x (by have := (List.getElem?_eq_some_iff.1 hx).1; omega) hx
    clear hno
    go_wp2_with fail
    go_ret
    exact ⟨by rw [hfin.out]; rfl, hb.out⟩
end Go.Proofs.YtnonfdcbnkdmcaaGreatDoor
namespace Go.Mem
open Go.RowKit
variable {P : Program}
theorem load_blk {W : World} {g : Nat} {t ty : TypeId} {r : List Value} {d : TypeDesc} (hB : Blk W g t r) (hu : P.underlying ty = some d) (hd : d.isRow = true) (hi : (P.info? ty).map (·.size) = some r.length) :
 (loadVar ty ⟨g, 0, none⟩).run P W = .ok (.agg r.toArray) W := run_loadVar_mid W g 0 ty r d hB.range hu hd hi

theorem ret_cell {fn : Func} {p : Tmp} {ty t : TypeId} (h : fn.results = #[.cell p ty]) {W : World} {g : Nat} {r : List Value} {d : TypeDesc} (hB : Blk W g t r) (hu : P.underlying ty = some d) (hd : d.isRow = true) (hi : (P.info? ty).map (·.size) = some r.length)
 {a : Act} (hp : a.tmps.getD p undef = .pointer (some ⟨g, 0, none⟩)) (hdf : a.defers = []) {Post : Ending → World → Prop} (hP : Post (.returned (.agg r.toArray)) W) : bodyPost P fn Post .ret a W := by
 refine bodyPost_ret (v := .agg r.toArray) ?_ hdf hP
 have hp' : a.tmps[p]?.getD undef = .pointer (some ⟨g, 0, none⟩) := by simpa using hp
 simp [results, h, hp', asAddr, load_blk hB hu hd hi]

theorem ret_cell_tmp {fn : Func} {p u : Tmp} {ty t : TypeId} (h : fn.results = #[.cell p ty, .tmp u]) {W : World} {g : Nat} {r : List Value} {d : TypeDesc} {v : Value} (hB : Blk W g t r) (hu : P.underlying ty = some d) (hd : d.isRow = true) (hi : (P.info? ty).map (·.size) = some r.length)
 {a : Act} (hp : a.tmps.getD p undef = .pointer (some ⟨g, 0, none⟩)) (hq : a.tmps.getD u undef = v) (hdf : a.defers = []) {Post : Ending → World → Prop} (hP : Post (.returned (.tuple #[.agg r.toArray, v])) W) : bodyPost P fn Post .ret a W := by
 refine bodyPost_ret (v := .tuple #[.agg r.toArray, v]) ?_ hdf hP
 rw [results_cell_tmp h, hp, hq]
 simp only [asAddr, Sem.run_pure, Result.andThen_ok, load_blk hB hu hd hi]

theorem results_cell_cell_tmp {fn : Func} {p q u : Tmp} {ty ty2 : TypeId} (h : fn.results = #[.cell p ty, .cell q ty2, .tmp u]) (tmps : Array Value) (w : World) :
 (results fn tmps).run P w =
   ((asAddr (tmps.getD p undef)).run P w).andThen fun a w₁ => ((loadVar ty a).run P w₁).andThen fun x w₂ => ((asAddr (tmps.getD q undef)).run P w₂).andThen fun b w₃ => ((loadVar ty2 b).run P w₃).andThen fun y w₄ => .ok (.tuple #[x, y, tmps.getD u undef]) w₄ := by
 simp only [results, h]
 simp [Sem.run_bind, Result.andThen]
theorem ret_cell_cell_tmp {fn : Func} {p q u : Tmp} {ty ty2 t t2 : TypeId} (h : fn.results = #[.cell p ty, .cell q ty2, .tmp u]) {W : World} {g g2 : Nat} {r r2 : List Value} {d d2 : TypeDesc} {v : Value}
 (hB : Blk W g t r) (hu : P.underlying ty = some d) (hd : d.isRow = true) (hi : (P.info? ty).map (·.size) = some r.length)
 (hB2 : Blk W g2 t2 r2) (hu2 : P.underlying ty2 = some d2) (hd2 : d2.isRow = true) (hi2 : (P.info? ty2).map (·.size) = some r2.length)
 {a : Act} (hp : a.tmps.getD p undef = .pointer (some ⟨g, 0, none⟩)) (hp2 : a.tmps.getD q undef = .pointer (some ⟨g2, 0, none⟩)) (hq : a.tmps.getD u undef = v) (hdf : a.defers = []) {Post : Ending → World → Prop} (hP : Post (.returned (.tuple #[.agg r.toArray, .agg r2.toArray, v])) W) : bodyPost P fn Post .ret a W := by
 refine bodyPost_ret (v := .tuple #[.agg r.toArray, .agg r2.toArray, v]) ?_ hdf hP
 rw [results_cell_cell_tmp h, hp, hp2, hq]
 simp only [asAddr, Sem.run_pure, Result.andThen_ok, load_blk hB hu hd hi, load_blk hB2 hu2 hd2 hi2]

structure Stored (W W2 : World) (g : Nat) (t : TypeId) (vs : List Value) : Prop where
 blk : Blk W2 g t vs
 grown : W.grownBy W2 (some g)
theorem storedB {W : World} {g : Nat} {t : TypeId} {cs vs : List Value} (h : Blk W g t cs) (hl : vs.length = cs.length) : Stored W (W.setCells g 0 vs) g t vs :=
 ⟨by have := Blk.setCells vs (w := W) (g := g) (t := t) (pre := []) (mid := cs) (post := []) (by simpa using h) hl.symm; simpa using this, grown_setCells vs (World.grownBy.refl W _)⟩
theorem there_of {W : World} {g : Nat} {t : TypeId} {cs vs : List Value} (h : Blk W g t cs) (hl : vs.length = cs.length) : W.there g 0 vs.toArray.size := by
 rw [List.size_toArray, hl]; exact h.there
theorem Stored.below {W W2 w0 : World} {g B : Nat} {t : TypeId} {vs : List Value} (h : Stored W W2 g t vs) (hb : Below B w0 W) (hB : B ≤ W.heap.size) (hg : B ≤ g) : Below B w0 W2 := below_grown hb h.grown hB hg
theorem Stored.far {W W2 : World} {g g2 : Nat} {t t2 : TypeId} {vs cs : List Value} (h : Stored W W2 g t vs) (h2 : Blk W g2 t2 cs) (hne : g2 ≠ g) : Blk W2 g2 t2 cs := h2.grown h.grown (fun e => hne (by cases e; rfl))
end Go.Mem
namespace Go.Proofs.YtnonfdcbnkdmcaaGreatDoor
open Go.RowKit Go.Mem Go.Shelf
open Go.Vw (Hd fitsB oddP oddI zeroH lastH ownsB verH validB)

def zrH : List Value := headC 0 0 0 (List.replicate 32 0) 0 0
theorem okH0 : OkH zeroH := ⟨i64_0, i64_0, i64_0, i64_0, i64_0, by simp [zeroH, Vw.zd], fun u hu => by have := List.eq_of_mem_replicate hu; omega⟩
theorem hdC0 : hdC zeroH = zrH := rfl
def oddR (hs : List Hd) (ds : List (List Nat)) : Hd × Bool := match hs[oddI hs ds]? with | some h => (h, true) | none => (zeroH, false)
def OddPost (x : Hd × Bool) (w : World) (e : Ending) (w' : World) : Prop := e = .returned (.tuple #[.agg (hdC x.1).toArray, .bool x.2]) ∧ Below w.heap.size w w'

set_option maxRecDepth 20000 in
set_option maxHeartbeats 1000000 in
theorem odd_any (a : Option Addr) (n c : Nat) (l : List Hd) (da : Option Addr) (dn dc : Nat) (ds : List (List Nat)) (w : World) (HT : Tabs w) (H : HS w a n c l) (HD : DS w da dn dc ds) (hbd : dn ≤ 100000) :
 Calls Tryz.prog 99 #[.slice a n c, .slice da dn dc] w (OddPost (oddR l ds) w) := by
 have hlen := H.rs.len
 have hnb := H.bd
 have n63 : (n : Int) ≤ 100000 := by omega
 have H' := Lib.hid H; have HD' := Lib.hid HD; have HT' := Lib.hid HT
 clear H HD HT
 obtain ⟨tb, htb⟩ : ∃ tb, Hid (w.heap.size = tb) := ⟨_, rfl⟩
 obtain ⟨W1, hW1⟩ : ∃ W1, W1 = (w.alloc (.cells #[.slice da dn dc] 47)).alloc (.cells zrH.toArray 36) := ⟨_, rfl⟩
 have hbs : Blk W1 tb 47 [.slice da dn dc] := by rw [hW1, ← htb.out]; exact (Blk.new w _ _).alloc _
 have hbz : Blk W1 (tb + 1) 36 zrH := by
  rw [hW1, ← htb.out]
  have := Blk.new (w.alloc (.cells #[.slice da dn dc] 47)) 36 zrH
  rwa [World.size_alloc] at this
 have hb1 : Hid (Below w.heap.size w W1) := by rw [hW1]; exact ((Below.refl _ w).alloc (Nat.le_refl _) _).alloc (by simp) _
 have hix := Lib.hid (indexH_any a n c l tb da dn dc ds W1 (HT'.out.below hb1.out) (H'.out.below hb1.out) (HD'.out.below hb1.out) hbd hbs.lt (hbs.at_ (i := 0) rfl))
 have hbz' := Lib.hid hbz
 have hzi : Hid ((Tryz.prog.info? 36).map (·.size) = some zrH.length) := sizeH
 clear hbs hbz
 obtain ⟨X, hX⟩ : ∃ X, X = OddPost (oddR l ds) w := ⟨_, rfl⟩
 rw [← hX]
 go_enter Tryz.func99, Tryz.ntmps99
 go_wp2_with fail
 rw [htb.out]
 generalize hWq : (w.alloc _).alloc _ = Wq
 obtain rfl : W1 = Wq := by rw [← hWq, hW1]; rfl
 clear hWq hW1
 refine hix.out.mono ?_
 rintro e w2 ⟨rfl, hb2⟩
 have hb2' := Lib.hid (hb1.out.trans (hb2.mono hb1.out.size))
 have hbz2 := Lib.hid (hbz'.out.below hb2 hbz'.out.lt)
 clear hb2 hb1 hbz' hix
 by_cases hi : oddI l ds < l.length
 · obtain ⟨k, hk⟩ : ∃ k, Hid (oddI l ds = k) := ⟨_, rfl⟩
   have hkl : k < l.length := by rw [← hk.out]; exact hi
   have hN : oddN l ds = (k : Int) := by unfold oddN; rw [if_pos hi, hk.out]
   obtain ⟨h, he⟩ : ∃ h, l[k]? = some h := ⟨_, List.getElem?_eq_getElem hkl⟩
   have hR : oddR l ds = (h, true) := by unfold oddR; rw [hk.out, he]
   rw [hN]
   rw [hR] at hX
   obtain ⟨b, off, rfl, hbl, ok, hrg⟩ := (H'.out.below hb2'.out).get he
   have hri := infoHd ok
   have hrg' := Lib.hid hrg
   have hst := storedB hbz2.out (vs := hdC h) (by rw [hdC_len ok]; rfl)
   have hth := Lib.hid (there_of hbz2.out (vs := hdC h) (by rw [hdC_len ok]; rfl))
   have hone := Lib.hid (hdC_r ok).one
   have k0 : (0 : Int) ≤ (k : Int) := by omega
   have k1 : (k : Int) < (n : Int) := by omega
   have hfin : Hid (X (.returned (.tuple #[.agg (hdC h).toArray, .bool true])) (w2.setCells (tb + 1) 0 (hdC h))) := by rw [hX]; exact ⟨rfl, hst.below hb2'.out hb2'.out.size (by rw [htb.out]; omega)⟩
   have hblk := Lib.hid hst.blk
   clear hX hst hN hR hi hk he hrg hb2' ok
   generalize hdC h = r at *
   go_wp2_with (first
    | (refine wpList_load_g (by rfl) 36 _ (by rfl) b (off + k * 37) (by rfl) r _ hrg'.out Tryz.underlying36 (by rfl) hri.out ?_)
     | (refine wpList_store_mid (by rfl) 36 _ _ (by rfl) (tb + 1) 0 r.toArray (by rfl) (by rfl) hth.out (by rw [List.size_toArray]; exact hri.out) (by simpa using hone.out) ?_))
   exact ret_cell_tmp (fn := Tryz.f99) (p := 4) (u := 5) rfl hblk.out Tryz.underlying36 rfl hri.out rfl rfl rfl hfin.out
 · have hN : oddN l ds = -1 := by unfold oddN; rw [if_neg hi]
   have hR : oddR l ds = (zeroH, false) := by unfold oddR; rw [List.getElem?_eq_none (by omega)]
   rw [hN]
   rw [hR] at hX
   have hst := storedB hbz2.out (vs := zrH) rfl
   have hth := Lib.hid (there_of hbz2.out (vs := zrH) rfl)
   have hrg' := Lib.hid hbz2.out.range
   have hone := Lib.hid (hdC_r okH0).one
   rw [hdC0] at hone
   have hfin : Hid (X (.returned (.tuple #[.agg zrH.toArray, .bool false])) (w2.setCells (tb + 1) 0 zrH)) := by rw [hX]; exact ⟨rfl, hst.below hb2'.out hb2'.out.size (by rw [htb.out]; omega)⟩
   have hblk := Lib.hid hst.blk
   clear hX hst hN hR hi hb2' hbz2
   generalize zrH = r at *
   go_wp2_with (first
    | (refine wpList_load_g (by rfl) 36 _ (by rfl) (tb + 1) 0 (by rfl) r _ hrg'.out Tryz.underlying36 (by rfl) hzi.out ?_)
     | (refine wpList_store_mid (by rfl) 36 _ _ (by rfl) (tb + 1) 0 r.toArray (by rfl) (by rfl) hth.out (by rw [List.size_toArray]; exact hzi.out) (by simpa using hone.out) ?_))
   exact ret_cell_tmp (fn := Tryz.f99) (p := 4) (u := 5) rfl hblk.out Tryz.underlying36 rfl hzi.out rfl rfl rfl hfin.out

/-! ### views in memory -/
structure VM (w : World) (v : Vw.V) (da : Option Addr) (dn dc : Nat) (ha : Option Addr) (hn hc : Nat) : Prop where
 st : I64 v.st
 fo : I64 v.fo
 pub : I64 v.pub
 ds : DS w da dn dc v.ds
 hs : HS w ha hn hc v.hs
 bd : dn ≤ 100000
theorem VM.below {w w' : World} {v : Vw.V} {da ha : Option Addr} {dn dc hn hc : Nat} (h : VM w v da dn dc ha hn hc) (hb : Below w.heap.size w w') : VM w' v da dn dc ha hn hc :=
 ⟨h.st, h.fo, h.pub, h.ds.below hb, h.hs.below hb, h.bd⟩
def vwC (v : Vw.V) (da : Option Addr) (dn dc : Nat) (ha : Option Addr) (hn hc : Nat) : List Value := [.int .i64 v.st, .int .i64 v.fo, .int .i64 v.pub, .slice da dn dc, .slice ha hn hc]
theorem lastH_get {l : List Hd} {k : Nat} {h : Hd} (hk : l.length = k + 1) (hh : l[k]? = some h) : lastH l = h := by
 unfold lastH
 rw [List.getLastD_eq_getLast?, List.getLast?_eq_getElem?, hk]
 simp [hh]

def HdPost (h : Hd) (w : World) (e : Ending) (w' : World) : Prop := e = .returned (.agg (hdC h).toArray) ∧ Below w.heap.size w w'
set_option maxRecDepth 20000 in
set_option maxHeartbeats 1000000 in
theorem last_any (v : Vw.V) (da : Option Addr) (dn dc : Nat) (ha : Option Addr) (hn hc : Nat) (w : World) (H : VM w v da dn dc ha hn hc) :
 Calls Tryz.prog 98 #[.agg #[.int .i64 v.st, .int .i64 v.fo, .int .i64 v.pub, .slice da dn dc, .slice ha hn hc]] w (HdPost (lastH v.hs) w) := by
 have hlen := H.hs.rs.len
 have hnb := H.hs.bd
 have n63 : (hn : Int) ≤ 100000 := by omega
 have H' := Lib.hid H.hs
 clear H
 obtain ⟨tb, htb⟩ : ∃ tb, Hid (w.heap.size = tb) := ⟨_, rfl⟩
 obtain ⟨W1, hW1⟩ : ∃ W1, W1 = (w.alloc (.cells #[.int .i64 v.st, .int .i64 v.fo, .int .i64 v.pub, .slice da dn dc, .slice ha hn hc] 93)).alloc (.cells zrH.toArray 36) := ⟨_, rfl⟩
 have hbv : Blk W1 tb 93 [.int .i64 v.st, .int .i64 v.fo, .int .i64 v.pub, .slice da dn dc, .slice ha hn hc] := by rw [hW1, ← htb.out]; exact (Blk.new w _ _).alloc _
 have hbz : Blk W1 (tb + 1) 36 zrH := by
  rw [hW1, ← htb.out]
  have := Blk.new (w.alloc (.cells #[.int .i64 v.st, .int .i64 v.fo, .int .i64 v.pub, .slice da dn dc, .slice ha hn hc] 93)) 36 zrH
  rwa [World.size_alloc] at this
 have hb1 : Hid (Below w.heap.size w W1) := by rw [hW1]; exact ((Below.refl _ w).alloc (Nat.le_refl _) _).alloc (by simp) _
 have c4 := hbv.at_ (i := 4) rfl
 have hzi : Hid ((Tryz.prog.info? 36).map (·.size) = some zrH.length) := sizeH
 have hbz' := Lib.hid hbz
 clear hbv hbz
 obtain ⟨X, hX⟩ : ∃ X, X = HdPost (lastH v.hs) w := ⟨_, rfl⟩
 rw [← hX]
 go_enter Tryz.func98, Tryz.ntmps98
 go_upto_region 1 with fail
 rw [htb.out]
 generalize hWq : (w.alloc _).alloc _ = Wq
 obtain rfl : W1 = Wq := by rw [← hWq, hW1]; rfl
 clear hWq hW1
 cases hn with
 | zero =>
  have hR : lastH v.hs = zeroH := by rw [List.eq_nil_of_length_eq_zero hlen]; rfl
  rw [hR] at hX
  have hst := storedB hbz'.out (vs := zrH) rfl
  have hth := Lib.hid (there_of hbz'.out (vs := zrH) rfl)
  have hrg' := Lib.hid hbz'.out.range
  have hone := Lib.hid (hdC_r okH0).one
  rw [hdC0] at hone
  have hfin : Hid (X (.returned (.agg zrH.toArray)) (W1.setCells (tb + 1) 0 zrH)) := by rw [hX]; exact ⟨rfl, hst.below hb1.out hb1.out.size (by rw [htb.out]; omega)⟩
  have hblk := Lib.hid hst.blk
  clear hX hst hR hbz'
  generalize zrH = r at *
  go_wp2_with (first
   | (refine wpList_load_g (by rfl) 36 _ (by rfl) (tb + 1) 0 (by rfl) r _ hrg'.out Tryz.underlying36 (by rfl) hzi.out ?_)
    | (refine wpList_store_mid (by rfl) 36 _ _ (by rfl) (tb + 1) 0 r.toArray (by rfl) (by rfl) hth.out (by rw [List.size_toArray]; exact hzi.out) (by simpa using hone.out) ?_))
  exact ret_cell (fn := Tryz.f98) (p := 2) rfl hblk.out Tryz.underlying36 rfl hzi.out rfl rfl hfin.out
 | succ k =>
  obtain ⟨h, he⟩ : ∃ h, v.hs[k]? = some h := ⟨_, List.getElem?_eq_getElem (by omega)⟩
  have hR := lastH_get hlen he
  rw [hR] at hX
  obtain ⟨b, off, rfl, hbl, ok, hrg⟩ := (H'.out.below hb1.out).get he
  have hri := infoHd ok
  have hrg' := Lib.hid hrg
  have hst := storedB hbz'.out (vs := hdC h) (by rw [hdC_len ok]; rfl)
  have hth := Lib.hid (there_of hbz'.out (vs := hdC h) (by rw [hdC_len ok]; rfl))
  have hone := Lib.hid (hdC_r ok).one
  have hfin : Hid (X (.returned (.agg (hdC h).toArray)) (W1.setCells (tb + 1) 0 (hdC h))) := by rw [hX]; exact ⟨rfl, hst.below hb1.out hb1.out.size (by rw [htb.out]; omega)⟩
  have hblk := Lib.hid hst.blk
  have hk1 : ((k + 1 : Nat) : Int) = (k : Int) + 1 := by omega
  have hk2 : (k : Int) + 1 - 1 = (k : Int) := by omega
  have k0 : (0 : Int) ≤ (k : Int) := by omega
  have k1 : (k : Int) < (k : Int) + 1 := by omega
  have k3 : (k : Int) ≤ 99999 := by omega
  rw [hk1] at n63
  clear hX hst hR he hrg ok hlen hnb hbz'
  generalize hdC h = r at *
  go_wp2_with (first
   | (refine wpList_load_g (by rfl) 36 _ (by rfl) b (off + k * 37) (by rfl) r _ hrg'.out Tryz.underlying36 (by rfl) hri.out ?_)
    | (refine wpList_store_mid (by rfl) 36 _ _ (by rfl) (tb + 1) 0 r.toArray (by rfl) (by rfl) hth.out (by rw [List.size_toArray]; exact hri.out) (by simpa using hone.out) ?_))
  exact ret_cell (fn := Tryz.f98) (p := 2) rfl hblk.out Tryz.underlying36 rfl hri.out rfl rfl hfin.out
end Go.Proofs.YtnonfdcbnkdmcaaGreatDoor
namespace Go.Proofs.YtnonfdcbnkdmcaaGreatDoor
open Go.RowKit Go.Mem Go.Shelf
open Go.Vw (Hd fitsB oddP oddI zeroH lastH ownsB verH validB headOk headsOk rangeB)

theorem hdC_0 (h : Hd) : (hdC h)[0]? = some (.int .i64 h.st) := rfl
theorem hdC_1 (h : Hd) : (hdC h)[1]? = some (.int .i64 h.fo) := rfl
theorem verH_any (pub : Int) (h : Hd) (hp : I64 pub) (ok : OkH h) (w : World) (HT : Tabs w) : Calls Tryz.prog 66 #[.int .i64 pub, .agg (hdC h).toArray] w (RetBo (verH pub h) w) :=
 sVerify_any pub h.st h.fo h.no h.R h.S h.ch hp ok.st ok.fo ok.no ok.R ok.ch w HT

set_option maxRecDepth 20000 in
set_option maxHeartbeats 1000000 in
theorem owns_any (v : Vw.V) (da : Option Addr) (dn dc : Nat) (ha : Option Addr) (hn hc : Nat) (h : Hd) (ok : OkH h) (w : World) (HT : Tabs w) (hp : I64 v.pub) :
 Calls Tryz.prog 57 #[.agg #[.int .i64 v.st, .int .i64 v.fo, .int .i64 v.pub, .slice da dn dc, .slice ha hn hc], .agg (hdC h).toArray] w (RetBo (ownsB v h) w) := by
 have HT' := Lib.hid HT
 clear HT
 obtain ⟨tb, htb⟩ : ∃ tb, Hid (w.heap.size = tb) := ⟨_, rfl⟩
 have hver := Lib.hid (fun W (hT : Tabs W) => verH_any v.pub h hp ok W hT)
 have hri := infoHd ok
 have h0 := hdC_0 h
 have h1 := hdC_1 h
 have ho : ownsB v h = (decide (h.st = v.st) && decide (h.fo = v.fo) && verH v.pub h) := rfl
 rw [ho]
 clear ho
 obtain ⟨W1, hW1⟩ : ∃ W1, W1 = (w.alloc (.cells #[.int .i64 v.st, .int .i64 v.fo, .int .i64 v.pub, .slice da dn dc, .slice ha hn hc] 93)).alloc (.cells (hdC h).toArray 36) := ⟨_, rfl⟩
 have hbv : Blk W1 tb 93 [.int .i64 v.st, .int .i64 v.fo, .int .i64 v.pub, .slice da dn dc, .slice ha hn hc] := by rw [hW1, ← htb.out]; exact (Blk.new w _ _).alloc _
 have hbz : Blk W1 (tb + 1) 36 (hdC h) := by
  rw [hW1, ← htb.out]
  have := Blk.new (w.alloc (.cells #[.int .i64 v.st, .int .i64 v.fo, .int .i64 v.pub, .slice da dn dc, .slice ha hn hc] 93)) 36 (hdC h)
  rwa [World.size_alloc] at this
 have hb1 : Hid (Below w.heap.size w W1) := by rw [hW1]; exact ((Below.refl _ w).alloc (Nat.le_refl _) _).alloc (by simp) _
 have c0 := hbv.at_ (i := 0) rfl
 have c1 := hbv.at_ (i := 1) rfl
 have c2 := hbv.at_ (i := 2) rfl
 have d0 := hbz.at_ h0
 have d1 := hbz.at_ h1
 have hrg := Lib.hid hbz.range
 clear hbv hbz h0 h1 ok
 generalize hdC h = r at *
 generalize verH v.pub h = q at *
 by_cases e0 : h.st = v.st
 · have g0 : (h.st == v.st) = true := by simpa using e0
   by_cases e1 : h.fo = v.fo
   · have g1 : (h.fo == v.fo) = true := by simpa using e1
     rw [decide_eq_true e0, decide_eq_true e1, Bool.true_and, Bool.true_and]
     clear e0 e1
     go_enter Tryz.func57, Tryz.ntmps57
     go_upto_region 1 with fail
     rw [htb.out]
     generalize hWq : (w.alloc _).alloc _ = Wq
     obtain rfl : W1 = Wq := by rw [← hWq, hW1]
     clear hWq hW1
     go_wp2_with (first
      | (refine wpList_load_g (by rfl) 36 _ (by rfl) (tb + 1) 0 (by rfl) r _ hrg.out Tryz.underlying36 (by rfl) hri.out ?_))
     refine (hver.out _ (HT'.out.below hb1.out)).mono ?_
     rintro e w2 ⟨rfl, hb2⟩
     have hfin := Lib.hid (hb1.out.trans (hb2.mono hb1.out.size))
     clear hb2 hrg hb1 c0 c1 c2 d0 d1
     go_wp2_with fail
     go_ret
     exact ⟨rfl, hfin.out⟩
   · have g1 : (h.fo == v.fo) = false := by simpa using e1
     rw [decide_eq_true e0, decide_eq_false e1, Bool.and_false, Bool.false_and]
     clear e0 e1
     go_enter Tryz.func57, Tryz.ntmps57
     go_upto_region 1 with fail
     rw [htb.out]
     generalize hWq : (w.alloc _).alloc _ = Wq
     obtain rfl : W1 = Wq := by rw [← hWq, hW1]
     clear hWq hW1
     go_wp2_with fail
     go_ret
     exact ⟨rfl, hb1.out⟩
 · have g0 : (h.st == v.st) = false := by simpa using e0
   rw [decide_eq_false e0, Bool.false_and, Bool.false_and]
   clear e0
   go_enter Tryz.func57, Tryz.ntmps57
   go_upto_region 1 with fail
   rw [htb.out]
   generalize hWq : (w.alloc _).alloc _ = Wq
   obtain rfl : W1 = Wq := by rw [← hWq, hW1]
   clear hWq hW1
   go_wp2_with fail
   go_ret
   exact ⟨rfl, hb1.out⟩
end Go.Proofs.YtnonfdcbnkdmcaaGreatDoor
namespace Go.Proofs.YtnonfdcbnkdmcaaGreatDoor
open Go.RowKit Go.Mem Go.Shelf
open Go.Vw (Hd fitsB oddP oddI zeroH lastH ownsB verH validB headOk headsOk rangeB)

def prevN (hs : List Hd) (k : Nat) : Option Int := if k = 0 then none else (hs[k - 1]?).map (·.no)
theorem field_g (g : Nat → Nat) (st fo no R S : Int) (W : World) : (Instr.field 36 (.agg (headC st fo no ((List.range 32).map g) R S).toArray) 2).run Tryz.prog W = .ok (.int .i64 no) W := by kernel_rfl
theorem field_no {h : Hd} (ok : OkH h) (W : World) : (Instr.field 36 (.agg (hdC h).toArray) 2).run Tryz.prog W = .ok (.int .i64 h.no) W := by
 unfold hdC
 rw [as_range ok.ch.1]
 exact field_g _ _ _ _ _ _ W
theorem HS.ok {w : World} {a : Option Addr} {n c : Nat} {l : List Hd} (H : HS w a n c l) {h : Hd} (hh : h ∈ l) : OkH h := by
 obtain ⟨k, hk⟩ := List.mem_iff_getElem?.1 hh
 obtain ⟨_, _, _, _, ok, _⟩ := H.get hk
 exact ok
theorem HS.last {w : World} {a : Option Addr} {n c : Nat} {l : List Hd} (H : HS w a n c l) : OkH (lastH l) := by
 cases l with
 | nil => exact okH0
 | cons x r => exact H.ok (Vw.lastH_mem (by simp))
theorem headsOk_drop {v : Vw.V} {p : Option Int} {k : Nat} {h : Hd} (he : v.hs[k]? = some h) : headsOk v p (v.hs.drop k) = (headOk v p h && headsOk v (some h.no) (v.hs.drop (k + 1))) := by
 have hk := (List.getElem?_eq_some_iff.1 he).1
 rw [List.drop_eq_getElem_cons hk, (List.getElem?_eq_some_iff.1 he).2]
 rfl
theorem headsOk_end {v : Vw.V} {p : Option Int} {k : Nat} (hk : v.hs.length ≤ k) : headsOk v p (v.hs.drop k) = true := by
 rw [List.drop_eq_nil_of_le hk]; rfl

set_option maxRecDepth 20000 in
set_option maxHeartbeats 8000000 in
theorem viewValid_any (v : Vw.V) (da : Option Addr) (dn dc : Nat) (ha : Option Addr) (hn hc : Nat) (w : World) (HT : Tabs w) (H : VM w v da dn dc ha hn hc) :
 Calls Tryz.prog 49 #[.agg #[.int .i64 v.st, .int .i64 v.fo, .int .i64 v.pub, .slice da dn dc, .slice ha hn hc]] w (RetBo (validB v) w) := by
 have hlen := H.hs.rs.len
 have hnb := H.hs.bd
 have hdn := H.ds.len
 have hbd := H.bd
 have n63 : (hn : Int) ≤ 100000 := by omega
 have d63 : (dn : Int) ≤ 100000 := by omega
 have H' := Lib.hid H; have HT' := Lib.hid HT
 clear H HT
 obtain ⟨tb, htb⟩ : ∃ tb, Hid (w.heap.size = tb) := ⟨_, rfl⟩
 obtain ⟨W1, hW1⟩ : ∃ W1, W1 = w.alloc (.cells #[.int .i64 v.st, .int .i64 v.fo, .int .i64 v.pub, .slice da dn dc, .slice ha hn hc] 93) := ⟨_, rfl⟩
 have hbv : Hid (Blk W1 tb 93 [.int .i64 v.st, .int .i64 v.fo, .int .i64 v.pub, .slice da dn dc, .slice ha hn hc]) := by rw [hW1, ← htb.out]; exact Blk.new w _ _
 have hb1 : Hid (Below w.heap.size w W1) := by rw [hW1]; exact (Below.refl _ w).alloc (Nat.le_refl _) _
 have c0 := hbv.out.at_ (i := 0) rfl
 have c1 := hbv.out.at_ (i := 1) rfl
 have c2 := hbv.out.at_ (i := 2) rfl
 have c3 := hbv.out.at_ (i := 3) rfl
 have c4 := hbv.out.at_ (i := 4) rfl
 have hlt := hbv.out.lt
 obtain ⟨B0, hB0⟩ : ∃ B, Hid (validB v = B) := ⟨_, rfl⟩
 obtain ⟨X, hX⟩ : ∃ X, X = RetBo (validB v) w := ⟨_, rfl⟩
 have hret : Hid (∀ W, Below w.heap.size w W → X (.returned (.bool B0)) W) := fun W h => by rw [hX, hB0.out]; exact ⟨rfl, h⟩
 rw [← hX]
 clear hX
 have hv : validB v = (decide (0 ≤ v.st ∧ v.st < 4) && decide (0 ≤ v.fo ∧ v.fo < 16) && decide ((lastH v.hs).no = v.ds.length) && headsOk v none v.hs) := rfl
 rw [hB0.out] at hv
 by_cases hrange : (0 ≤ v.st ∧ v.st < 4) ∧ (0 ≤ v.fo ∧ v.fo < 16)
 case neg =>
  have hB : B0 = false := by
   rw [hv]
   by_cases a1 : 0 ≤ v.st ∧ v.st < 4
   · have a2 : ¬ (0 ≤ v.fo ∧ v.fo < 16) := fun h => hrange ⟨a1, h⟩
     simp [a2]
   · simp [a1]
  subst hB
  clear hv hB0
  have hcs : decide (v.st < 0) = true ∨ (decide (v.st < 0) = false ∧ decide (4 ≤ v.st) = true) ∨ (decide (v.st < 0) = false ∧ decide (4 ≤ v.st) = false ∧ decide (v.fo < 0) = true) ∨ (decide (v.st < 0) = false ∧ decide (4 ≤ v.st) = false ∧ decide (v.fo < 0) = false ∧ decide (16 ≤ v.fo) = true) := by
   simp only [decide_eq_true_eq, decide_eq_false_iff_not]
   omega
  clear hrange
  rcases hcs with g0 | ⟨g0, g1⟩ | ⟨g0, g1, g2⟩ | ⟨g0, g1, g2, g3⟩
  all_goals
   go_enter Tryz.func49, Tryz.ntmps49
   go_upto_region 1 with fail
   rw [htb.out]
   generalize hWq : w.alloc _ = Wq
   obtain rfl : W1 = Wq := by rw [← hWq, hW1]
   clear hWq hW1
   go_quiet (fail)
   have hfin := Lib.hid (hret.out _ (below_drewN' hb1.out nq))
   go_wp2_with fail
   exact hfin.out
 case pos =>
  obtain ⟨⟨s0, s1⟩, f0, f1⟩ := hrange
  have g0 : decide (v.st < 0) = false := decide_eq_false (by omega)
  have g1 : decide (4 ≤ v.st) = false := decide_eq_false (by omega)
  have g2 : decide (v.fo < 0) = false := decide_eq_false (by omega)
  have g3 : decide (16 ≤ v.fo) = false := decide_eq_false (by omega)
  rw [decide_eq_true ⟨s0, s1⟩, decide_eq_true ⟨f0, f1⟩, Bool.true_and, Bool.true_and] at hv
  have hlast := Lib.hid (fun W (h : VM W v da dn dc ha hn hc) => last_any v da dn dc ha hn hc W h)
  obtain ⟨L, hL⟩ : ∃ L, Hid (lastH v.hs = L) := ⟨_, rfl⟩
  rw [hL.out] at hlast hv
  have hLk : OkH L := by rw [← hL.out]; exact H'.out.hs.last
  have hL2 := fun W => field_no hLk W
  have hLn := hLk.no
  unfold I64 at hLn
  clear hLk
  clear s0 s1 f0 f1
  obtain ⟨gN, hgN⟩ : ∃ g, Hid ((L.no != (dn : Int)) = g) := ⟨_, rfl⟩
  have hg5 := hgN.out
  have hv' := Lib.hid hv
  clear hv
  go_enter Tryz.func49, Tryz.ntmps49
  go_upto_region 1 with fail
  rw [htb.out]
  generalize hWq : w.alloc _ = Wq
  obtain rfl : W1 = Wq := by rw [← hWq, hW1]
  clear hWq hW1
  refine wp_region_held_drew (S := fun wz => Below W1.heap.size W1 wz) (by kernel_rfl) ((Below.refl _ W1).drew) (fun hHeld => ?_)
  refine tG 0 (v := ?_) rfl (Or.inl ⟨by rfl, ?_⟩) hHeld ?_
  rotate_left
  · intro wz hSw
    have q0 := (hSw.cell (p := ⟨tb, 0, none⟩) hlt).trans c0
    have q1 := (hSw.cell (p := ⟨tb, 1, none⟩) hlt).trans c1
    have q2 := (hSw.cell (p := ⟨tb, 2, none⟩) hlt).trans c2
    have q3 := (hSw.cell (p := ⟨tb, 3, none⟩) hlt).trans c3
    have q4 := (hSw.cell (p := ⟨tb, 4, none⟩) hlt).trans c4
    go_simp
    all_goals (with_reducible rfl)
  try simp only [Act.put, sA, s0, s1]
  refine tG 1 (v := ?_) rfl (Or.inl ⟨by rfl, ?_⟩) hHeld ?_
  rotate_left
  · intro wz hSw
    have q0 := (hSw.cell (p := ⟨tb, 0, none⟩) hlt).trans c0
    have q1 := (hSw.cell (p := ⟨tb, 1, none⟩) hlt).trans c1
    have q2 := (hSw.cell (p := ⟨tb, 2, none⟩) hlt).trans c2
    have q3 := (hSw.cell (p := ⟨tb, 3, none⟩) hlt).trans c3
    have q4 := (hSw.cell (p := ⟨tb, 4, none⟩) hlt).trans c4
    go_simp
    all_goals (with_reducible rfl)
  try simp only [Act.put, sA, s0, s1]
  refine tG 2 (v := ?_) rfl (Or.inl ⟨by rfl, ?_⟩) hHeld ?_
  rotate_left
  · intro wz hSw
    have q0 := (hSw.cell (p := ⟨tb, 0, none⟩) hlt).trans c0
    have q1 := (hSw.cell (p := ⟨tb, 1, none⟩) hlt).trans c1
    have q2 := (hSw.cell (p := ⟨tb, 2, none⟩) hlt).trans c2
    have q3 := (hSw.cell (p := ⟨tb, 3, none⟩) hlt).trans c3
    have q4 := (hSw.cell (p := ⟨tb, 4, none⟩) hlt).trans c4
    go_simp
    all_goals (with_reducible rfl)
  try simp only [Act.put, sA, s0, s1]
  refine tG 3 (v := ?_) rfl (Or.inl ⟨by rfl, ?_⟩) hHeld ?_
  rotate_left
  · intro wz hSw
    have q0 := (hSw.cell (p := ⟨tb, 0, none⟩) hlt).trans c0
    have q1 := (hSw.cell (p := ⟨tb, 1, none⟩) hlt).trans c1
    have q2 := (hSw.cell (p := ⟨tb, 2, none⟩) hlt).trans c2
    have q3 := (hSw.cell (p := ⟨tb, 3, none⟩) hlt).trans c3
    have q4 := (hSw.cell (p := ⟨tb, 4, none⟩) hlt).trans c4
    go_simp
    all_goals (with_reducible rfl)
  try simp only [Act.put, sA, s0, s1]
  refine tG 4 (v := ?_) rfl (Or.inl ⟨by rfl, ?_⟩) hHeld ?_
  rotate_left
  · intro wz hSw
    have q0 := (hSw.cell (p := ⟨tb, 0, none⟩) hlt).trans c0
    have q1 := (hSw.cell (p := ⟨tb, 1, none⟩) hlt).trans c1
    have q2 := (hSw.cell (p := ⟨tb, 2, none⟩) hlt).trans c2
    have q3 := (hSw.cell (p := ⟨tb, 3, none⟩) hlt).trans c3
    have q4 := (hSw.cell (p := ⟨tb, 4, none⟩) hlt).trans c4
    go_simp
    all_goals (with_reducible rfl)
  try simp only [Act.put, sA, s0, s1]
  refine tG 5 (v := ?_) rfl (Or.inl ⟨by rfl, ?_⟩) hHeld ?_
  rotate_left
  · intro wz hSw
    have q0 := (hSw.cell (p := ⟨tb, 0, none⟩) hlt).trans c0
    have q1 := (hSw.cell (p := ⟨tb, 1, none⟩) hlt).trans c1
    have q2 := (hSw.cell (p := ⟨tb, 2, none⟩) hlt).trans c2
    have q3 := (hSw.cell (p := ⟨tb, 3, none⟩) hlt).trans c3
    have q4 := (hSw.cell (p := ⟨tb, 4, none⟩) hlt).trans c4
    go_simp
    all_goals (with_reducible rfl)
  try simp only [Act.put, sA, s0, s1]
  refine tG 6 (v := ?_) rfl (Or.inl ⟨by rfl, ?_⟩) hHeld ?_
  rotate_left
  · intro wz hSw
    have q0 := (hSw.cell (p := ⟨tb, 0, none⟩) hlt).trans c0
    have q1 := (hSw.cell (p := ⟨tb, 1, none⟩) hlt).trans c1
    have q2 := (hSw.cell (p := ⟨tb, 2, none⟩) hlt).trans c2
    have q3 := (hSw.cell (p := ⟨tb, 3, none⟩) hlt).trans c3
    have q4 := (hSw.cell (p := ⟨tb, 4, none⟩) hlt).trans c4
    go_simp
    all_goals (with_reducible rfl)
  try simp only [Act.put, sA, s0, s1]
  refine tG 7 (v := ?_) rfl (Or.inl ⟨by rfl, ?_⟩) hHeld ?_
  rotate_left
  · intro wz hSw
    have q0 := (hSw.cell (p := ⟨tb, 0, none⟩) hlt).trans c0
    have q1 := (hSw.cell (p := ⟨tb, 1, none⟩) hlt).trans c1
    have q2 := (hSw.cell (p := ⟨tb, 2, none⟩) hlt).trans c2
    have q3 := (hSw.cell (p := ⟨tb, 3, none⟩) hlt).trans c3
    have q4 := (hSw.cell (p := ⟨tb, 4, none⟩) hlt).trans c4
    go_simp
    all_goals (with_reducible rfl)
  try simp only [Act.put, sA, s0, s1]
  refine tG 8 (v := ?_) rfl (Or.inl ⟨by rfl, ?_⟩) hHeld ?_
  rotate_left
  · intro wz hSw
    have q0 := (hSw.cell (p := ⟨tb, 0, none⟩) hlt).trans c0
    have q1 := (hSw.cell (p := ⟨tb, 1, none⟩) hlt).trans c1
    have q2 := (hSw.cell (p := ⟨tb, 2, none⟩) hlt).trans c2
    have q3 := (hSw.cell (p := ⟨tb, 3, none⟩) hlt).trans c3
    have q4 := (hSw.cell (p := ⟨tb, 4, none⟩) hlt).trans c4
    go_simp
    all_goals (with_reducible rfl)
  try simp only [Act.put, sA, s0, s1]
  refine tG 9 (v := ?_) rfl (Or.inl ⟨by rfl, ?_⟩) hHeld ?_
  rotate_left
  · intro wz hSw
    have q0 := (hSw.cell (p := ⟨tb, 0, none⟩) hlt).trans c0
    have q1 := (hSw.cell (p := ⟨tb, 1, none⟩) hlt).trans c1
    have q2 := (hSw.cell (p := ⟨tb, 2, none⟩) hlt).trans c2
    have q3 := (hSw.cell (p := ⟨tb, 3, none⟩) hlt).trans c3
    have q4 := (hSw.cell (p := ⟨tb, 4, none⟩) hlt).trans c4
    go_simp
    all_goals (with_reducible rfl)
  try simp only [Act.put, sA, s0, s1]
  refine tG 10 (v := ?_) rfl (Or.inl ⟨by rfl, ?_⟩) hHeld ?_
  rotate_left
  · intro wz hSw
    have q0 := (hSw.cell (p := ⟨tb, 0, none⟩) hlt).trans c0
    have q1 := (hSw.cell (p := ⟨tb, 1, none⟩) hlt).trans c1
    have q2 := (hSw.cell (p := ⟨tb, 2, none⟩) hlt).trans c2
    have q3 := (hSw.cell (p := ⟨tb, 3, none⟩) hlt).trans c3
    have q4 := (hSw.cell (p := ⟨tb, 4, none⟩) hlt).trans c4
    go_simp
    all_goals (with_reducible rfl)
  try simp only [Act.put, sA, s0, s1]
  refine tG 11 (v := ?_) rfl (Or.inl ⟨by rfl, ?_⟩) hHeld ?_
  rotate_left
  · intro wz hSw
    have q0 := (hSw.cell (p := ⟨tb, 0, none⟩) hlt).trans c0
    have q1 := (hSw.cell (p := ⟨tb, 1, none⟩) hlt).trans c1
    have q2 := (hSw.cell (p := ⟨tb, 2, none⟩) hlt).trans c2
    have q3 := (hSw.cell (p := ⟨tb, 3, none⟩) hlt).trans c3
    have q4 := (hSw.cell (p := ⟨tb, 4, none⟩) hlt).trans c4
    go_simp
    all_goals (with_reducible rfl)
  try simp only [Act.put, sA, s0, s1]
  refine tG 12 (v := ?_) rfl (Or.inl ⟨by rfl, ?_⟩) hHeld ?_
  rotate_left
  · intro wz hSw
    have q0 := (hSw.cell (p := ⟨tb, 0, none⟩) hlt).trans c0
    have q1 := (hSw.cell (p := ⟨tb, 1, none⟩) hlt).trans c1
    have q2 := (hSw.cell (p := ⟨tb, 2, none⟩) hlt).trans c2
    have q3 := (hSw.cell (p := ⟨tb, 3, none⟩) hlt).trans c3
    have q4 := (hSw.cell (p := ⟨tb, 4, none⟩) hlt).trans c4
    go_simp
    all_goals (with_reducible rfl)
  try simp only [Act.put, sA, s0, s1]
  refine tG 13 (v := ?_) rfl (Or.inl ⟨by rfl, ?_⟩) hHeld ?_
  rotate_left
  · intro wz hSw
    have q0 := (hSw.cell (p := ⟨tb, 0, none⟩) hlt).trans c0
    have q1 := (hSw.cell (p := ⟨tb, 1, none⟩) hlt).trans c1
    have q2 := (hSw.cell (p := ⟨tb, 2, none⟩) hlt).trans c2
    have q3 := (hSw.cell (p := ⟨tb, 3, none⟩) hlt).trans c3
    have q4 := (hSw.cell (p := ⟨tb, 4, none⟩) hlt).trans c4
    go_simp
    all_goals (with_reducible rfl)
  try simp only [Act.put, sA, s0, s1]
  refine tG 14 (v := ?_) rfl (Or.inl ⟨by rfl, ?_⟩) hHeld ?_
  rotate_left
  · intro wz hSw
    have q0 := (hSw.cell (p := ⟨tb, 0, none⟩) hlt).trans c0
    have q1 := (hSw.cell (p := ⟨tb, 1, none⟩) hlt).trans c1
    have q2 := (hSw.cell (p := ⟨tb, 2, none⟩) hlt).trans c2
    have q3 := (hSw.cell (p := ⟨tb, 3, none⟩) hlt).trans c3
    have q4 := (hSw.cell (p := ⟨tb, 4, none⟩) hlt).trans c4
    go_simp
    all_goals (with_reducible rfl)
  try simp only [Act.put, sA, s0, s1]
  refine tG 15 (v := ?_) rfl (Or.inl ⟨by rfl, ?_⟩) hHeld ?_
  rotate_left
  · intro wz hSw
    have q0 := (hSw.cell (p := ⟨tb, 0, none⟩) hlt).trans c0
    have q1 := (hSw.cell (p := ⟨tb, 1, none⟩) hlt).trans c1
    have q2 := (hSw.cell (p := ⟨tb, 2, none⟩) hlt).trans c2
    have q3 := (hSw.cell (p := ⟨tb, 3, none⟩) hlt).trans c3
    have q4 := (hSw.cell (p := ⟨tb, 4, none⟩) hlt).trans c4
    go_simp
    all_goals (with_reducible rfl)
  try simp only [Act.put, sA, s0, s1]
  refine tG 16 (v := ?_) rfl (Or.inl ⟨by rfl, ?_⟩) hHeld ?_
  rotate_left
  · intro wz hSw
    have q0 := (hSw.cell (p := ⟨tb, 0, none⟩) hlt).trans c0
    have q1 := (hSw.cell (p := ⟨tb, 1, none⟩) hlt).trans c1
    have q2 := (hSw.cell (p := ⟨tb, 2, none⟩) hlt).trans c2
    have q3 := (hSw.cell (p := ⟨tb, 3, none⟩) hlt).trans c3
    have q4 := (hSw.cell (p := ⟨tb, 4, none⟩) hlt).trans c4
    go_simp
    all_goals (with_reducible rfl)
  try simp only [Act.put, sA, s0, s1]
  refine tG 17 (v := ?_) rfl (Or.inl ⟨by rfl, ?_⟩) hHeld ?_
  rotate_left
  · intro wz hSw
    have q0 := (hSw.cell (p := ⟨tb, 0, none⟩) hlt).trans c0
    have q1 := (hSw.cell (p := ⟨tb, 1, none⟩) hlt).trans c1
    have q2 := (hSw.cell (p := ⟨tb, 2, none⟩) hlt).trans c2
    have q3 := (hSw.cell (p := ⟨tb, 3, none⟩) hlt).trans c3
    have q4 := (hSw.cell (p := ⟨tb, 4, none⟩) hlt).trans c4
    go_simp
    all_goals (with_reducible rfl)
  try simp only [Act.put, sA, s0, s1]
  refine tG 18 (v := ?_) rfl (Or.inl ⟨by rfl, ?_⟩) hHeld ?_
  rotate_left
  · intro wz hSw
    have q0 := (hSw.cell (p := ⟨tb, 0, none⟩) hlt).trans c0
    have q1 := (hSw.cell (p := ⟨tb, 1, none⟩) hlt).trans c1
    have q2 := (hSw.cell (p := ⟨tb, 2, none⟩) hlt).trans c2
    have q3 := (hSw.cell (p := ⟨tb, 3, none⟩) hlt).trans c3
    have q4 := (hSw.cell (p := ⟨tb, 4, none⟩) hlt).trans c4
    go_simp
    all_goals (with_reducible rfl)
  try simp only [Act.put, sA, s0, s1]
  refine tG 19 (v := ?_) rfl (Or.inl ⟨by rfl, ?_⟩) hHeld ?_
  rotate_left
  · intro wz hSw
    have q0 := (hSw.cell (p := ⟨tb, 0, none⟩) hlt).trans c0
    have q1 := (hSw.cell (p := ⟨tb, 1, none⟩) hlt).trans c1
    have q2 := (hSw.cell (p := ⟨tb, 2, none⟩) hlt).trans c2
    have q3 := (hSw.cell (p := ⟨tb, 3, none⟩) hlt).trans c3
    have q4 := (hSw.cell (p := ⟨tb, 4, none⟩) hlt).trans c4
    go_simp
    all_goals (with_reducible rfl)
  try simp only [Act.put, sA, s0, s1]
  refine tG 20 (v := ?_) rfl (Or.inl ⟨by rfl, ?_⟩) hHeld ?_
  rotate_left
  · intro wz hSw
    have q0 := (hSw.cell (p := ⟨tb, 0, none⟩) hlt).trans c0
    have q1 := (hSw.cell (p := ⟨tb, 1, none⟩) hlt).trans c1
    have q2 := (hSw.cell (p := ⟨tb, 2, none⟩) hlt).trans c2
    have q3 := (hSw.cell (p := ⟨tb, 3, none⟩) hlt).trans c3
    have q4 := (hSw.cell (p := ⟨tb, 4, none⟩) hlt).trans c4
    go_simp
    all_goals (with_reducible rfl)
  try simp only [Act.put, sA, s0, s1]
  refine tG 21 (v := ?_) rfl (Or.inl ⟨by rfl, ?_⟩) hHeld ?_
  rotate_left
  · intro wz hSw
    have q0 := (hSw.cell (p := ⟨tb, 0, none⟩) hlt).trans c0
    have q1 := (hSw.cell (p := ⟨tb, 1, none⟩) hlt).trans c1
    have q2 := (hSw.cell (p := ⟨tb, 2, none⟩) hlt).trans c2
    have q3 := (hSw.cell (p := ⟨tb, 3, none⟩) hlt).trans c3
    have q4 := (hSw.cell (p := ⟨tb, 4, none⟩) hlt).trans c4
    go_simp
    all_goals (with_reducible rfl)
  try simp only [Act.put, sA, s0, s1]
  refine tG 22 (v := ?_) rfl (Or.inl ⟨by rfl, ?_⟩) hHeld ?_
  rotate_left
  · intro wz hSw
    have q0 := (hSw.cell (p := ⟨tb, 0, none⟩) hlt).trans c0
    have q1 := (hSw.cell (p := ⟨tb, 1, none⟩) hlt).trans c1
    have q2 := (hSw.cell (p := ⟨tb, 2, none⟩) hlt).trans c2
    have q3 := (hSw.cell (p := ⟨tb, 3, none⟩) hlt).trans c3
    have q4 := (hSw.cell (p := ⟨tb, 4, none⟩) hlt).trans c4
    go_simp
    all_goals (with_reducible rfl)
  try simp only [Act.put, sA, s0, s1]
  refine tG 23 (v := ?_) rfl (Or.inl ⟨by rfl, ?_⟩) hHeld ?_
  rotate_left
  · intro wz hSw
    have q0 := (hSw.cell (p := ⟨tb, 0, none⟩) hlt).trans c0
    have q1 := (hSw.cell (p := ⟨tb, 1, none⟩) hlt).trans c1
    have q2 := (hSw.cell (p := ⟨tb, 2, none⟩) hlt).trans c2
    have q3 := (hSw.cell (p := ⟨tb, 3, none⟩) hlt).trans c3
    have q4 := (hSw.cell (p := ⟨tb, 4, none⟩) hlt).trans c4
    go_simp
    all_goals (with_reducible rfl)
  try simp only [Act.put, sA, s0, s1]
  refine tG 26 (v := ?_) rfl (Or.inl ⟨by rfl, ?_⟩) hHeld ?_
  rotate_left
  · intro wz hSw
    have q0 := (hSw.cell (p := ⟨tb, 0, none⟩) hlt).trans c0
    have q1 := (hSw.cell (p := ⟨tb, 1, none⟩) hlt).trans c1
    have q2 := (hSw.cell (p := ⟨tb, 2, none⟩) hlt).trans c2
    have q3 := (hSw.cell (p := ⟨tb, 3, none⟩) hlt).trans c3
    have q4 := (hSw.cell (p := ⟨tb, 4, none⟩) hlt).trans c4
    go_simp
    all_goals (with_reducible rfl)
  try simp only [Act.put, sA, s0, s1]
  refine tG 27 (v := ?_) rfl (Or.inl ⟨by rfl, ?_⟩) hHeld ?_
  rotate_left
  · intro wz hSw
    have q0 := (hSw.cell (p := ⟨tb, 0, none⟩) hlt).trans c0
    have q1 := (hSw.cell (p := ⟨tb, 1, none⟩) hlt).trans c1
    have q2 := (hSw.cell (p := ⟨tb, 2, none⟩) hlt).trans c2
    have q3 := (hSw.cell (p := ⟨tb, 3, none⟩) hlt).trans c3
    have q4 := (hSw.cell (p := ⟨tb, 4, none⟩) hlt).trans c4
    go_simp
    all_goals (with_reducible rfl)
  try simp only [Act.put, sA, s0, s1]
  refine tG 28 (v := ?_) rfl (Or.inl ⟨by rfl, ?_⟩) hHeld ?_
  rotate_left
  · intro wz hSw
    have q0 := (hSw.cell (p := ⟨tb, 0, none⟩) hlt).trans c0
    have q1 := (hSw.cell (p := ⟨tb, 1, none⟩) hlt).trans c1
    have q2 := (hSw.cell (p := ⟨tb, 2, none⟩) hlt).trans c2
    have q3 := (hSw.cell (p := ⟨tb, 3, none⟩) hlt).trans c3
    have q4 := (hSw.cell (p := ⟨tb, 4, none⟩) hlt).trans c4
    go_simp
    all_goals (with_reducible rfl)
  try simp only [Act.put, sA, s0, s1]
  refine tG 29 (v := ?_) rfl (Or.inl ⟨by rfl, ?_⟩) hHeld ?_
  rotate_left
  · intro wz hSw
    have q0 := (hSw.cell (p := ⟨tb, 0, none⟩) hlt).trans c0
    have q1 := (hSw.cell (p := ⟨tb, 1, none⟩) hlt).trans c1
    have q2 := (hSw.cell (p := ⟨tb, 2, none⟩) hlt).trans c2
    have q3 := (hSw.cell (p := ⟨tb, 3, none⟩) hlt).trans c3
    have q4 := (hSw.cell (p := ⟨tb, 4, none⟩) hlt).trans c4
    go_simp
    all_goals (with_reducible rfl)
  try simp only [Act.put, sA, s0, s1]
  refine tO 24 rfl (fun K hK => ?_)
  go_simp
  go_at_call 98
  refine (hlast.out _ (H'.out.below (hb1.out.trans (hHeld.mono hb1.out.size)))).mono ?_
  rintro e w2 ⟨rfl, hb2⟩
  refine hK.out _ _ (hHeld.trans (hb2.mono hHeld.size)) (fun hHeld => ?_)
  clear hK K
  try simp only [Act.put, sA, s0, s1]
  refine tQ 25 rfl hHeld ?_
  refine tQ 30 rfl hHeld ?_
  refine tQ 31 rfl hHeld ?_
  refine wpAnyH_done (by kernel_rfl) ?_ _
  have hb3 := Lib.hid (hb1.out.trans (hHeld.mono hb1.out.size))
  have hW2 := Lib.hid hHeld
  have e4 := (hHeld.cell (p := ⟨tb, 4, none⟩) hlt).trans c4
  have hv0 : Hid (B0 = (!gN && headsOk v none v.hs)) := by
   have h1 := hv'.out
   rw [hdn] at h1
   have h2 : decide (L.no = (dn : Int)) = !gN := by rw [← hgN.out]; simp only [bne, Bool.not_not]; rfl
   show _ = _
   rw [h1, h2]
  clear hL2 hlast hg5 hgN hv' hLn hL hB0 g0 g1 g2 g3
  clear hHeld
  cases gN with
  | true =>
   have hB : B0 = false := by rw [hv0.out]; rfl
   subst hB
   have hfin := Lib.hid (hret.out _ hb3.out)
   clear hv0
   go_wp2_with fail
   exact hfin.out
  | false =>
   have hv1 : Hid (B0 = headsOk v (prevN v.hs 0) (v.hs.drop 0)) := hv0.out
   clear hv0
   go_wp2_with fail
   clear e4
   go_loopw [41] (fun i wr => ∃ k : Nat, k ≤ hn ∧ i = .int .i64 k ∧ Hid (B0 = headsOk v (prevN v.hs k) (v.hs.drop k)) ∧ Hid (Below W1.heap.size W1 wr)) (fun i _ => hn - (intOf i).toNat)
   case atStart => exact ⟨0, Nat.zero_le _, rfl, hv1, hW2⟩
   case round =>
    clear hv1
    obtain ⟨k, hk, rfl, hv1, hW⟩ := hrel
    by_cases hklt : k < hn
    case neg =>
     obtain rfl : k = hn := by omega
     have hB : B0 = true := by rw [hv1.out, headsOk_end (by omega)]
     subst hB
     have hfin := Lib.hid (hret.out _ (hb1.out.trans (hW.out.mono hb1.out.size)))
     clear hv1
     go_wp2_with fail
     exact hfin.out
    case pos =>
    obtain ⟨h, he⟩ : ∃ h, v.hs[k]? = some h := ⟨_, List.getElem?_eq_getElem (by omega)⟩
    have hH := H'.out.hs.below (hb1.out.trans (hW.out.mono hb1.out.size))
    obtain ⟨b, off, rfl, hbl, ok, hrg⟩ := hH.get he
    rw [headsOk_drop he] at hv1
    obtain ⟨W2, hP⟩ := put_row (ty := 36) (Blk.new wr 36 zrH) (x := hdC h) (by rw [hdC_len ok]; rfl) (by rw [hdC_len ok]; exact sizeH) (hdC_r ok).one
    obtain ⟨tq, htq⟩ : ∃ tq, tq = wr.heap.size := ⟨_, rfl⟩
    have hgw : wr.grownBy W2 none := ⟨hP.grown.os, hP.grown.tape, hP.grown.output, Nat.le_trans (by simp) hP.grown.size, fun q hq _ => (hP.grown.block q (by simp; omega) (fun e => by cases e; omega)).trans (Below.heap_alloc wr _ q hq)⟩
    have hbw2 : Below wr.heap.size wr W2 := (Below.refl _ wr).grown hgw (Nat.le_refl _) (fun _ e => by cases e)
    have hWb : Hid (Below W1.heap.size W1 W2) := hW.out.trans (hbw2.mono hW.out.size)
    have hBq : Hid (Blk W2 tq 36 (hdC h)) := by rw [htq]; exact hP.blk
    have hrg' := Lib.hid hrg
    have hri := infoHd ok
    have hP' := Lib.hid hP
    have hbv2 := Lib.hid (hbv.out.below hWb.out hlt)
    have k0 : (0 : Int) ≤ (k : Int) := by omega
    have k1 : (k : Int) < (hn : Int) := by omega
    have hown := Lib.hid (fun W (hT : Tabs W) => owns_any v da dn dc (some ⟨b, off, none⟩) hn hc h ok W hT H'.out.pub)
    have hfit := Lib.hid (fun W (hT : Tabs W) (hS : DS W da dn dc v.ds) => fits_any h ok da dn dc v.ds W hT hS hbd)
    have hok : Hid (headOk v (prevN v.hs k) h = (ownsB v h && (match prevN v.hs k with | none => true | some p => decide (p < h.no)) && fitsB h v.ds)) := rfl
    have hpr : ∀ j, k = j + 1 → ∃ h0, v.hs[j]? = some h0 ∧ W2.cell? ⟨b, off + j * 37 + 2, none⟩ = some (.int .i64 h0.no) := fun j hj => by
     obtain ⟨h0, he0⟩ : ∃ h0, v.hs[j]? = some h0 := ⟨_, List.getElem?_eq_getElem (by omega)⟩
     obtain ⟨b', off', e, _, _, hr0⟩ := hH.get he0
     cases e
     exact ⟨h0, he0, (hbw2.cell (p := ⟨b, _, none⟩) hbl).trans (hr0 2 _ (hdC_2 h0))⟩
    have hpr' := Lib.hid hpr
    have hbl2 : b < W2.heap.size := Nat.lt_of_lt_of_le hbl hbw2.size
    clear hP hrg hH hgw ok hpr hbl hbw2
    go_upto_region 6 with (first
     | (refine wpList_load_g (by rfl) 36 _ (by rfl) b (off + k * 37) (by rfl) (hdC h) _ hrg'.out Tryz.underlying36 (by rfl) hri.out ?_)
      | (refine wpList_store_mid (by rfl) 36 _ _ (by rfl) wr.heap.size 0 (hdC h).toArray (by rfl) (by rfl) hP'.out.there hP'.out.info (by simpa using hP'.out.one) ?_
         generalize hWq : World.setCells _ _ _ _ = Wa
         obtain rfl : W2 = Wa := by rw [← hWq]; exact hP'.out.eq
         clear hWq))
    rw [← htq]
    try simp only [Act.put]
    clear hP' hrg' htq
    have x0 := hbv2.out.at_ (i := 0) rfl
    have x1 := hbv2.out.at_ (i := 1) rfl
    have x2 := hbv2.out.at_ (i := 2) rfl
    have x3 := hbv2.out.at_ (i := 3) rfl
    have x4 := hbv2.out.at_ (i := 4) rfl
    have xn := hBq.out.at_ (hdC_2 h)
    have xlt := hbv2.out.lt
    have qlt := hBq.out.lt
    have hBa := Lib.hid (hb1.out.trans (hWb.out.mono hb1.out.size))
    obtain ⟨ob, hob⟩ : ∃ ob, Hid (ownsB v h = ob) := ⟨_, rfl⟩
    obtain ⟨fb, hfb⟩ : ∃ fb, Hid (fitsB h v.ds = fb) := ⟨_, rfl⟩
    rw [hob.out] at hown hok
    rw [hfb.out] at hfit hok
    have hnx : prevN v.hs (k + 1) = some h.no := by unfold prevN; rw [if_neg (by omega), Nat.add_sub_cancel, he]; rfl
    have hv2 : Hid (B0 = (headOk v (prevN v.hs k) h && headsOk v (prevN v.hs (k + 1)) (v.hs.drop (k + 1)))) := by rw [hnx]; exact hv1.out
    clear hv1 hob hfb hnx hbv hbv2 c0 c1 c2 c3 c4
    cases ob with
    | false =>
     have hB : B0 = false := by rw [hv2.out, hok.out]; rfl
     subst hB
     clear hv2 hok hpr' hfit
     refine wp_region_held_drew (S := fun wz => Below W2.heap.size W2 wz) (by kernel_rfl) ((Below.refl _ W2).drew) (fun hHeld => ?_)
     refine tG 0 (v := ?_) rfl (Or.inl ⟨by rfl, ?_⟩) hHeld ?_
     rotate_left
     · intro wz hSw
       have q0 := (hSw.cell (p := ⟨tb, 0, none⟩) xlt).trans x0
       have q1 := (hSw.cell (p := ⟨tb, 1, none⟩) xlt).trans x1
       have q2 := (hSw.cell (p := ⟨tb, 2, none⟩) xlt).trans x2
       have q3 := (hSw.cell (p := ⟨tb, 3, none⟩) xlt).trans x3
       have q4 := (hSw.cell (p := ⟨tb, 4, none⟩) xlt).trans x4
       go_simp
       all_goals (with_reducible rfl)
     try simp only [Act.put, sA, s0, s1]
     refine tY 1 rfl tq 0 (hdC h) (fun wz h => (hBq.out.below h qlt).range) Tryz.underlying36 hri.out hHeld ?_
     refine tO 2 rfl (fun K hK => ?_)
     go_simp
     go_at_call 57
     refine (hown.out _ (HT'.out.below (hBa.out.trans (hHeld.mono hBa.out.size)))).mono ?_
     rintro e w3 ⟨rfl, hb3⟩
     refine hK.out _ _ (hHeld.trans (hb3.mono hHeld.size)) (fun hHeld => ?_)
     clear hK K
     try simp only [Act.put, sA, s0, s1]
     refine tQ 3 rfl hHeld ?_
     refine tQ 4 rfl hHeld ?_
     refine tS 5 rfl hHeld ?_
     refine tS 6 rfl hHeld ?_
     refine tS 7 rfl hHeld ?_
     refine tS 8 rfl hHeld ?_
     refine tS 9 rfl hHeld ?_
     refine tS 10 rfl hHeld ?_
     refine tS 11 rfl hHeld ?_
     refine tS 12 rfl hHeld ?_
     refine tS 13 rfl hHeld ?_
     refine tS 14 rfl hHeld ?_
     refine tS 15 rfl hHeld ?_
     refine tS 16 rfl hHeld ?_
     refine tS 17 rfl hHeld ?_
     refine tS 18 rfl hHeld ?_
     refine tS 19 rfl hHeld ?_
     refine tQ 20 rfl hHeld ?_
     refine tQ 21 rfl hHeld ?_
     refine tS 22 rfl hHeld ?_
     refine tS 23 rfl hHeld ?_
     refine tS 24 rfl hHeld ?_
     refine tS 25 rfl hHeld ?_
     refine Go.rd (rs := [26]) ?_
     refine AllReadyH.cons (o := ⟨some 72, .call { callee := .value (.func 59), args := #[.tmp 68, .tmp 71], argTypes := #[36, 47] }, 4, "views.go:67", #[⟨22, .data⟩, ⟨25, .data⟩, ⟨21, .chain⟩, ⟨21, .guard⟩], some (21, false)⟩) rfl (fun K hK => ?_) AllReadyH.nil
     rw [if_neg (Bool.eq_false_iff.1 (by rfl))]
     refine hK.out _ _ hHeld (fun hHeld => ?_)
     clear hK K
     try simp only [Act.put, sA, s0, s1]
     refine tS 27 rfl hHeld ?_
     refine tQ 28 rfl hHeld ?_
     refine wpAnyH_done (by kernel_rfl) ?_ _
     have hfin := Lib.hid (hret.out _ (hBa.out.trans (hHeld.mono hBa.out.size)))
     go_wp2_with fail
     exact hfin.out
    | true =>
     rcases Nat.eq_zero_or_pos k with hk0 | hk0
     · subst hk0
       have hB : Hid (B0 = (fb && headsOk v (prevN v.hs 1) (v.hs.drop 1))) := by show _ = _; rw [hv2.out, hok.out]; rfl
       clear hv2 hok hpr'
       refine wp_region_held_drew (S := fun wz => Below W2.heap.size W2 wz) (by kernel_rfl) ((Below.refl _ W2).drew) (fun hHeld => ?_)
       refine tG 0 (v := ?_) rfl (Or.inl ⟨by rfl, ?_⟩) hHeld ?_
       rotate_left
       · intro wz hSw
         have q0 := (hSw.cell (p := ⟨tb, 0, none⟩) xlt).trans x0
         have q1 := (hSw.cell (p := ⟨tb, 1, none⟩) xlt).trans x1
         have q2 := (hSw.cell (p := ⟨tb, 2, none⟩) xlt).trans x2
         have q3 := (hSw.cell (p := ⟨tb, 3, none⟩) xlt).trans x3
         have q4 := (hSw.cell (p := ⟨tb, 4, none⟩) xlt).trans x4
         go_simp
         all_goals (with_reducible rfl)
       try simp only [Act.put, sA, s0, s1]
       refine tY 1 rfl tq 0 (hdC h) (fun wz h => (hBq.out.below h qlt).range) Tryz.underlying36 hri.out hHeld ?_
       refine tO 2 rfl (fun K hK => ?_)
       go_simp
       go_at_call 57
       refine (hown.out _ (HT'.out.below (hBa.out.trans (hHeld.mono hBa.out.size)))).mono ?_
       rintro e w3 ⟨rfl, hb3⟩
       refine hK.out _ _ (hHeld.trans (hb3.mono hHeld.size)) (fun hHeld => ?_)
       clear hK K
       try simp only [Act.put, sA, s0, s1]
       refine tQ 3 rfl hHeld ?_
       refine tQ 4 rfl hHeld ?_
       refine tQ 5 rfl hHeld ?_
       refine tQ 6 rfl hHeld ?_
       refine tQ 7 rfl hHeld ?_
       refine tS 8 rfl hHeld ?_
       refine tS 9 rfl hHeld ?_
       refine tS 10 rfl hHeld ?_
       refine tS 11 rfl hHeld ?_
       refine tS 12 rfl hHeld ?_
       refine tS 13 rfl hHeld ?_
       refine tS 14 rfl hHeld ?_
       refine tS 15 rfl hHeld ?_
       refine tS 16 rfl hHeld ?_
       refine tS 17 rfl hHeld ?_
       refine tS 18 rfl hHeld ?_
       refine tQ 19 rfl hHeld ?_
       refine tQ 20 rfl hHeld ?_
       refine tQ 21 rfl hHeld ?_
       refine tY 22 rfl tq 0 (hdC h) (fun wz h => (hBq.out.below h qlt).range) Tryz.underlying36 hri.out hHeld ?_
       refine tQ 23 rfl hHeld ?_
       refine tQ 24 rfl hHeld ?_
       refine tG 25 (v := ?_) rfl (Or.inl ⟨by rfl, ?_⟩) hHeld ?_
       rotate_left
       · intro wz hSw
         have q0 := (hSw.cell (p := ⟨tb, 0, none⟩) xlt).trans x0
         have q1 := (hSw.cell (p := ⟨tb, 1, none⟩) xlt).trans x1
         have q2 := (hSw.cell (p := ⟨tb, 2, none⟩) xlt).trans x2
         have q3 := (hSw.cell (p := ⟨tb, 3, none⟩) xlt).trans x3
         have q4 := (hSw.cell (p := ⟨tb, 4, none⟩) xlt).trans x4
         go_simp
         all_goals (with_reducible rfl)
       try simp only [Act.put, sA, s0, s1]
       refine tO 26 rfl (fun K hK => ?_)
       go_simp
       go_at_call 59
       refine (hfit.out _ (HT'.out.below (hBa.out.trans (hHeld.mono hBa.out.size))) (H'.out.ds.below (hBa.out.trans (hHeld.mono hBa.out.size)))).mono ?_
       rintro e w4 ⟨rfl, hb4⟩
       refine hK.out _ _ (hHeld.trans (hb4.mono hHeld.size)) (fun hHeld => ?_)
       clear hK K
       try simp only [Act.put, sA, s0, s1]
       refine tQ 27 rfl hHeld ?_
       refine tQ 28 rfl hHeld ?_
       refine wpAnyH_done (by kernel_rfl) ?_ _
       have hHe := Lib.hid hHeld
       cases fb with
       | false =>
        have hB2 : B0 = false := by rw [hB.out]; rfl
        subst hB2
        have hfin := Lib.hid (hret.out _ (hBa.out.trans (hHe.out.mono hBa.out.size)))
        clear hB
        go_wp2_with fail
        exact hfin.out
       | true =>
        have hv3 : Hid (B0 = headsOk v (prevN v.hs (0 + 1)) (v.hs.drop (0 + 1))) := by show _ = _; rw [hB.out, Bool.true_and]
        have hW3 := Lib.hid (hWb.out.trans (hHe.out.mono hWb.out.size))
        clear hB hHe
        go_wp2_with fail
        go_roundw
        case rel => exact ⟨0 + 1, by omega, by go_num, hv3, hW3⟩
        case measure => simp [intOf]; omega
     · obtain ⟨j, rfl⟩ : ∃ j, k = j + 1 := ⟨k - 1, by omega⟩
       obtain ⟨h0, he0, xp⟩ := hpr'.out j rfl
       have hp0 : prevN v.hs (j + 1) = some h0.no := by unfold prevN; rw [if_neg (by omega), Nat.add_sub_cancel, he0]; rfl
       have hok2 : Hid (headOk v (prevN v.hs (j + 1)) h = (decide (h0.no < h.no) && fb)) := by show _ = _; rw [hok.out, hp0]; rfl
       have e1 : ((j + 1 : Nat) : Int) = (j : Int) + 1 := by omega
       have e2 : (j : Int) + 1 - 1 = (j : Int) := by omega
       have e3 : IntKind.i64.wrap (j : Int) = (j : Int) := IntWalk.i64_in _ (by omega)
       have j0 : (0 : Int) ≤ (j : Int) := by omega
       have j1 : (j : Int) < (hn : Int) := by omega
       have j3 : (0 : Int) < (j : Int) + 1 := by omega
       clear hok hpr' he0 hp0 hk0
       by_cases hlt2 : h0.no < h.no
       · have g1 : decide (h.no ≤ h0.no) = false := decide_eq_false (by omega)
         have hB : Hid (B0 = (fb && headsOk v (prevN v.hs (j + 1 + 1)) (v.hs.drop (j + 1 + 1)))) := by show _ = _; rw [hv2.out, hok2.out, decide_eq_true hlt2, Bool.true_and]
         clear hv2 hok2 hlt2
         refine wp_region_held_drew (S := fun wz => Below W2.heap.size W2 wz) (by kernel_rfl) ((Below.refl _ W2).drew) (fun hHeld => ?_)
         refine tG 0 (v := ?_) rfl (Or.inl ⟨by rfl, ?_⟩) hHeld ?_
         rotate_left
         · intro wz hSw
           have q0 := (hSw.cell (p := ⟨tb, 0, none⟩) xlt).trans x0
           have q1 := (hSw.cell (p := ⟨tb, 1, none⟩) xlt).trans x1
           have q2 := (hSw.cell (p := ⟨tb, 2, none⟩) xlt).trans x2
           have q3 := (hSw.cell (p := ⟨tb, 3, none⟩) xlt).trans x3
           have q4 := (hSw.cell (p := ⟨tb, 4, none⟩) xlt).trans x4
           go_simp
           all_goals (with_reducible rfl)
         try simp only [Act.put, sA, s0, s1]
         refine tY 1 rfl tq 0 (hdC h) (fun wz h => (hBq.out.below h qlt).range) Tryz.underlying36 hri.out hHeld ?_
         refine tO 2 rfl (fun K hK => ?_)
         go_simp
         go_at_call 57
         refine (hown.out _ (HT'.out.below (hBa.out.trans (hHeld.mono hBa.out.size)))).mono ?_
         rintro e w3 ⟨rfl, hb3⟩
         refine hK.out _ _ (hHeld.trans (hb3.mono hHeld.size)) (fun hHeld => ?_)
         clear hK K
         try simp only [Act.put, sA, s0, s1]
         refine tQ 3 rfl hHeld ?_
         refine tQ 4 rfl hHeld ?_
         refine tQ 5 rfl hHeld ?_
         refine tQ 6 rfl hHeld ?_
         refine tQ 7 rfl hHeld ?_
         refine tQ 8 rfl hHeld ?_
         refine tX 9 rfl (fun wz hSw => (hSw.cell (p := ⟨tq, 2, none⟩) qlt).trans xn) hHeld ?_
         refine tQ 10 rfl hHeld ?_
         refine tQ 11 rfl hHeld ?_
         refine tG 12 (v := ?_) rfl (Or.inl ⟨by rfl, ?_⟩) hHeld ?_
         rotate_left
         · intro wz hSw
           have q0 := (hSw.cell (p := ⟨tb, 0, none⟩) xlt).trans x0
           have q1 := (hSw.cell (p := ⟨tb, 1, none⟩) xlt).trans x1
           have q2 := (hSw.cell (p := ⟨tb, 2, none⟩) xlt).trans x2
           have q3 := (hSw.cell (p := ⟨tb, 3, none⟩) xlt).trans x3
           have q4 := (hSw.cell (p := ⟨tb, 4, none⟩) xlt).trans x4
           go_simp
           all_goals (with_reducible rfl)
         try simp only [Act.put, sA, s0, s1]
         refine tQ 13 rfl hHeld ?_
         refine tQ 14 rfl hHeld ?_
         refine tQ 15 rfl hHeld ?_
         refine tQ 16 rfl hHeld ?_
         refine tX 17 rfl (fun wz hSw => (hSw.cell (p := ⟨b, off + j * 37 + 2, none⟩) hbl2).trans xp) hHeld ?_
         refine tQ 18 rfl hHeld ?_
         refine tQ 19 rfl hHeld ?_
         refine tQ 20 rfl hHeld ?_
         refine tQ 21 rfl hHeld ?_
         refine tY 22 rfl tq 0 (hdC h) (fun wz h => (hBq.out.below h qlt).range) Tryz.underlying36 hri.out hHeld ?_
         refine tQ 23 rfl hHeld ?_
         refine tQ 24 rfl hHeld ?_
         refine tG 25 (v := ?_) rfl (Or.inl ⟨by rfl, ?_⟩) hHeld ?_
         rotate_left
         · intro wz hSw
           have q0 := (hSw.cell (p := ⟨tb, 0, none⟩) xlt).trans x0
           have q1 := (hSw.cell (p := ⟨tb, 1, none⟩) xlt).trans x1
           have q2 := (hSw.cell (p := ⟨tb, 2, none⟩) xlt).trans x2
           have q3 := (hSw.cell (p := ⟨tb, 3, none⟩) xlt).trans x3
           have q4 := (hSw.cell (p := ⟨tb, 4, none⟩) xlt).trans x4
           go_simp
           all_goals (with_reducible rfl)
         try simp only [Act.put, sA, s0, s1]
         refine tO 26 rfl (fun K hK => ?_)
         go_simp
         go_at_call 59
         refine (hfit.out _ (HT'.out.below (hBa.out.trans (hHeld.mono hBa.out.size))) (H'.out.ds.below (hBa.out.trans (hHeld.mono hBa.out.size)))).mono ?_
         rintro e w4 ⟨rfl, hb4⟩
         refine hK.out _ _ (hHeld.trans (hb4.mono hHeld.size)) (fun hHeld => ?_)
         clear hK K
         try simp only [Act.put, sA, s0, s1]
         refine tQ 27 rfl hHeld ?_
         refine tQ 28 rfl hHeld ?_
         refine wpAnyH_done (by kernel_rfl) ?_ _
         have hHe := Lib.hid hHeld
         cases fb with
         | false =>
          have hB2 : B0 = false := by rw [hB.out]; rfl
          subst hB2
          have hfin := Lib.hid (hret.out _ (hBa.out.trans (hHe.out.mono hBa.out.size)))
          clear hB
          go_wp2_with fail
          exact hfin.out
         | true =>
          have hv3 : Hid (B0 = headsOk v (prevN v.hs ((j + 1) + 1)) (v.hs.drop ((j + 1) + 1))) := by show _ = _; rw [hB.out, Bool.true_and]
          have hW3 := Lib.hid (hWb.out.trans (hHe.out.mono hWb.out.size))
          clear hB hHe
          go_wp2_with fail
          go_roundw
          case rel => exact ⟨(j + 1) + 1, by omega, by go_num, hv3, hW3⟩
          case measure => simp [intOf]; omega
       · have g1 : decide (h.no ≤ h0.no) = true := decide_eq_true (by omega)
         have hB : B0 = false := by rw [hv2.out, hok2.out, decide_eq_false hlt2]; rfl
         subst hB
         clear hv2 hok2 hlt2 hfit
         refine wp_region_held_drew (S := fun wz => Below W2.heap.size W2 wz) (by kernel_rfl) ((Below.refl _ W2).drew) (fun hHeld => ?_)
         refine tG 0 (v := ?_) rfl (Or.inl ⟨by rfl, ?_⟩) hHeld ?_
         rotate_left
         · intro wz hSw
           have q0 := (hSw.cell (p := ⟨tb, 0, none⟩) xlt).trans x0
           have q1 := (hSw.cell (p := ⟨tb, 1, none⟩) xlt).trans x1
           have q2 := (hSw.cell (p := ⟨tb, 2, none⟩) xlt).trans x2
           have q3 := (hSw.cell (p := ⟨tb, 3, none⟩) xlt).trans x3
           have q4 := (hSw.cell (p := ⟨tb, 4, none⟩) xlt).trans x4
           go_simp
           all_goals (with_reducible rfl)
         try simp only [Act.put, sA, s0, s1]
         refine tY 1 rfl tq 0 (hdC h) (fun wz h => (hBq.out.below h qlt).range) Tryz.underlying36 hri.out hHeld ?_
         refine tO 2 rfl (fun K hK => ?_)
         go_simp
         go_at_call 57
         refine (hown.out _ (HT'.out.below (hBa.out.trans (hHeld.mono hBa.out.size)))).mono ?_
         rintro e w3 ⟨rfl, hb3⟩
         refine hK.out _ _ (hHeld.trans (hb3.mono hHeld.size)) (fun hHeld => ?_)
         clear hK K
         try simp only [Act.put, sA, s0, s1]
         refine tQ 3 rfl hHeld ?_
         refine tQ 4 rfl hHeld ?_
         refine tQ 5 rfl hHeld ?_
         refine tQ 6 rfl hHeld ?_
         refine tQ 7 rfl hHeld ?_
         refine tQ 8 rfl hHeld ?_
         refine tX 9 rfl (fun wz hSw => (hSw.cell (p := ⟨tq, 2, none⟩) qlt).trans xn) hHeld ?_
         refine tQ 10 rfl hHeld ?_
         refine tQ 11 rfl hHeld ?_
         refine tG 12 (v := ?_) rfl (Or.inl ⟨by rfl, ?_⟩) hHeld ?_
         rotate_left
         · intro wz hSw
           have q0 := (hSw.cell (p := ⟨tb, 0, none⟩) xlt).trans x0
           have q1 := (hSw.cell (p := ⟨tb, 1, none⟩) xlt).trans x1
           have q2 := (hSw.cell (p := ⟨tb, 2, none⟩) xlt).trans x2
           have q3 := (hSw.cell (p := ⟨tb, 3, none⟩) xlt).trans x3
           have q4 := (hSw.cell (p := ⟨tb, 4, none⟩) xlt).trans x4
           go_simp
           all_goals (with_reducible rfl)
         try simp only [Act.put, sA, s0, s1]
         refine tQ 13 rfl hHeld ?_
         refine tQ 14 rfl hHeld ?_
         refine tQ 15 rfl hHeld ?_
         refine tQ 16 rfl hHeld ?_
         refine tX 17 rfl (fun wz hSw => (hSw.cell (p := ⟨b, off + j * 37 + 2, none⟩) hbl2).trans xp) hHeld ?_
         refine tQ 18 rfl hHeld ?_
         refine tQ 19 rfl hHeld ?_
         refine tQ 20 rfl hHeld ?_
         refine tQ 21 rfl hHeld ?_
         refine tS 22 rfl hHeld ?_
         refine tS 23 rfl hHeld ?_
         refine tS 24 rfl hHeld ?_
         refine tS 25 rfl hHeld ?_
         refine Go.rd (rs := [26]) ?_
         refine AllReadyH.cons (o := ⟨some 72, .call { callee := .value (.func 59), args := #[.tmp 68, .tmp 71], argTypes := #[36, 47] }, 4, "views.go:67", #[⟨22, .data⟩, ⟨25, .data⟩, ⟨21, .chain⟩, ⟨21, .guard⟩], some (21, false)⟩) rfl (fun K hK => ?_) AllReadyH.nil
         rw [if_neg (Bool.eq_false_iff.1 (by rfl))]
         refine hK.out _ _ hHeld (fun hHeld => ?_)
         clear hK K
         try simp only [Act.put, sA, s0, s1]
         refine tS 27 rfl hHeld ?_
         refine tQ 28 rfl hHeld ?_
         refine wpAnyH_done (by kernel_rfl) ?_ _
         have hfin := Lib.hid (hret.out _ (hBa.out.trans (hHeld.mono hBa.out.size)))
         go_wp2_with fail
         exact hfin.out
end Go.Proofs.YtnonfdcbnkdmcaaGreatDoor

