/- views, plainly: heads, views, proofs; what the functions of chapter 32 compute; no program but the words for hashes and signatures views, plainly: what the laws of chapter 32 say of the functions views, plainly: stores that show beginnings of one list, or two lists a range over a function whose iterator writes rows of its own between the rounds: a law of the walk views.ends: the chains of a list of digests, yielded one by one views.fits slices of heads; views.odd results out of boxes; rows storedB into boxes: general laws views.odd, last, owns, valid views.owns, valid views.valid -/
import Derived.Test.YtnonfdcbnkdmcaaGreatDoorAl
import Derived.Test.YtnonfdcbnkdmcaaGreatDoorSve
import Derived.Test.YtnonfdcbnkdmcaaGreatDoorStPlain
import Derived.RangeFuncWrites
import Derived.RangeFuncNested
import Derived.RangeFuncRecord
import Derived.BigFrame
import Derived.Deep.MidRow
import Derived.Test.YtnonfdcbnkdmcaaGreatDoorSgA
import Derived.Test.YtnonfdcbnkdmcaaGreatDoorMem2
import Derived.Laws.ResultCell
import Derived.IntWalk
namespace Go.Vw
open Go.Proofs.YtnonfdcbnkdmcaaGreatDoor (chainD headB entryD)
open Go.Sto (Ent)

structure Hd where
 st : Int
 fo : Int
 no : Int
 ch : List Nat
 R : Int
 S : Int
structure V where
 st : Int
 fo : Int
 pub : Int
 ds : List (List Nat)
 hs : List Hd
structure Fk where
 a : Hd
 b : Hd
 ds : List (List Nat)

def zd : List Nat := List.replicate 32 0
def zeroH : Hd := ⟨0, 0, 0, zd, 0, 0⟩
def zeroV : V := ⟨0, 0, 0, [], []⟩
def zeroF : Fk := ⟨zeroH, zeroH, []⟩
def eqH (a b : Hd) : Bool := decide (a.st = b.st ∧ a.fo = b.fo ∧ a.no = b.no ∧ a.ch = b.ch ∧ a.R = b.R ∧ a.S = b.S)
def fitsB (h : Hd) (l : List (List Nat)) : Bool := decide (0 ≤ h.no ∧ h.no ≤ l.length) && decide (chainD h.fo (l.take h.no.toNat) = h.ch)
def oddP (l : List (List Nat)) (h : Hd) : Bool := decide (h.no ≤ l.length) && !fitsB h l
def oddI (hs : List Hd) (l : List (List Nat)) : Nat := hs.findIdx (oddP l)
def lastH (hs : List Hd) : Hd := hs.getLastD zeroH
def verH (pub : Int) (h : Hd) : Bool := headB pub h.st h.fo h.no h.ch h.R h.S
def ownsB (v : V) (h : Hd) : Bool := decide (h.st = v.st) && decide (h.fo = v.fo) && verH v.pub h
def headOk (v : V) (prev : Option Int) (h : Hd) : Bool := ownsB v h && (match prev with | none => true | some p => decide (p < h.no)) && fitsB h v.ds
def headsOk (v : V) : Option Int → List Hd → Bool
 | _, [] => true
 | p, h :: r => headOk v p h && headsOk v (some h.no) r
def rangeB (v : V) : Bool := decide (0 ≤ v.st ∧ v.st < 4) && decide (0 ≤ v.fo ∧ v.fo < 16) && decide ((lastH v.hs).no = v.ds.length)
def validB (v : V) : Bool := rangeB v && headsOk v none v.hs
def accuse (v : V) (hs : List Hd) : Fk × Bool :=
 match hs[oddI hs v.ds]? with
 | some h => (⟨h, lastH v.hs, v.ds⟩, true)
 | none => (zeroF, false)
def checkV (v : V) : Int := if validB v then 0 else 320
def entOk (x : Ent) : Bool := Sto.kindB x.kind && (if x.gone then decide (x.kind = 4) && decide (x.data.length = 0) else decide (x.dig = entryD x.kind x.data))
def insH (h : Hd) : List Hd → List Hd
 | [] => [h]
 | x :: r => if x.no < h.no then x :: insH h r else if x.no = h.no then x :: r else h :: x :: r
def accD (v : V) (d : List (List Nat)) (h : Hd) : V × Fk × Int :=
 if v.ds.length ≤ d.length then
  if (accuse ⟨v.st, v.fo, v.pub, d, [h]⟩ v.hs).2 then (v, (accuse ⟨v.st, v.fo, v.pub, d, [h]⟩ v.hs).1, 321) else (⟨v.st, v.fo, v.pub, d, insH h v.hs⟩, zeroF, 0)
 else
  if (accuse v [h]).2 then (v, (accuse v [h]).1, 321) else (⟨v.st, v.fo, v.pub, v.ds, insH h v.hs⟩, zeroF, 0)
def accOk (v : V) (l : List Ent) (h : Hd) : Bool := validB v && ownsB v h && decide (h.no = l.length) && l.all entOk && fitsB h (l.map (·.dig))
def accV (v : V) (l : List Ent) (h : Hd) : V × Fk × Int := if accOk v l h then accD v (l.map (·.dig)) h else (zeroV, zeroF, 320)
end Go.Vw
namespace Go.Vw
open Go.Proofs.YtnonfdcbnkdmcaaGreatDoor (chainD headB entryD)
open Go.Sto (Ent)

structure Ok (v : V) : Prop where
 st : 0 ≤ v.st ∧ v.st < 4
 fo : 0 ≤ v.fo ∧ v.fo < 16
 last : (lastH v.hs).no = v.ds.length
 owns : ∀ h ∈ v.hs, ownsB v h = true
 fits : ∀ h ∈ v.hs, fitsB h v.ds = true
 up : v.hs.Pairwise (fun a b => a.no < b.no)
theorem lastH_cons (h : Hd) (r : List Hd) (hr : r ≠ []) : lastH (h :: r) = lastH r := by
 unfold lastH
 cases r with
 | nil => exact absurd rfl hr
 | cons a t => simp [List.getLastD]
theorem lastH_mem : ∀ {l : List Hd}, l ≠ [] → lastH l ∈ l
 | [], h => absurd rfl h
 | [x], _ => by simp [lastH]
 | x :: y :: r, _ => by
  rw [lastH_cons x (y :: r) (by simp)]
  exact List.mem_cons_of_mem _ (lastH_mem (by simp))
theorem fits_mk {h : Hd} {l : List (List Nat)} (h0 : 0 ≤ h.no) (h1 : h.no ≤ l.length) (h2 : chainD h.fo (l.take h.no.toNat) = h.ch) : fitsB h l = true := by
 unfold fitsB
 rw [Bool.and_eq_true]
 exact ⟨decide_eq_true ⟨h0, h1⟩, decide_eq_true h2⟩
theorem owns_iff {v : V} {h : Hd} : ownsB v h = true ↔ h.st = v.st ∧ h.fo = v.fo ∧ verH v.pub h = true := by
 unfold ownsB
 rw [Bool.and_eq_true, Bool.and_eq_true, decide_eq_true_iff, decide_eq_true_iff]
 exact and_assoc
/-! ### Prove accepts what is returned -/
/-! ### what is remembered -/
end Go.Vw
namespace Go.Vw
open Go.Proofs.YtnonfdcbnkdmcaaGreatDoor (chainD headB entryD)
open Go.Sto (Ent)

structure Sg (id fo pub : Int) (ds : List (List Nat)) (h : Hd) : Prop where
 est : h.st = id
 efo : h.fo = fo
 no : h.no = ds.length
 ch : h.ch = chainD fo ds
 ver : verH pub h = true
section
variable {id fo pub : Int} {D : List (List Nat)} {m n : Nat} {v w : V} {h : Hd} {l : List Ent}
theorem Sg.owns (hs : Sg id fo pub D h) (h1 : v.st = id) (h2 : v.fo = fo) (h3 : v.pub = pub) : ownsB v h = true := owns_iff.2 ⟨by rw [hs.est, h1], by rw [hs.efo, h2], by rw [h3]; exact hs.ver⟩
theorem Sg.fits (hs : Sg id fo pub D h) : fitsB h D = true := fits_mk (by rw [hs.no]; omega) (by rw [hs.no]; exact Int.le_refl _) (by rw [hs.no, hs.efo, Int.toNat_natCast, List.take_length, hs.ch])
/-! ### two lists -/
/-! ### one list only -/
end
end Go.Vw
namespace Go
open Go.RowKit
variable {F : Fence} {n : Nat} {P : Program}

def Deaf {β : Type} (B : Nat) (J : β → World → Prop) : Prop := ∀ s A C row, J s A → A.grownBy C row → (∀ r, row = some r → B ≤ r) → J s C
theorem Deaf.none {β : Type} {B : Nat} {J : β → World → Prop} (h : Deaf B J) {s : β} {A C : World} (hs : J s A) (hg : A.grownBy C none) : J s C := h s A C Option.none hs hg (fun _ e => by cases e)
theorem Deaf.put {β : Type} {B : Nat} {J : β → World → Prop} (h : Deaf B J) {s : β} {A : World} (hs : J s A) {l : Nat} (o : Obj) (hl : B ≤ l) : J s (A.putObj l o) :=
 h s A _ (some l) hs (grownBy_putObj' A l o) (fun r e => by cases e; exact hl)
theorem Deaf.alloc {β : Type} {B : Nat} {J : β → World → Prop} (h : Deaf B J) {s : β} {A : World} (hs : J s A) (o : Obj) : J s (A.alloc o) := h.none hs (World.grownBy_alloc A o Option.none)
theorem Deaf.and {β : Type} {B : Nat} {I J : β → World → Prop} (h : Deaf B I) (k : Deaf B J) : Deaf B (fun s W => I s W ∧ J s W) := fun s A C row hs hg hr => ⟨h s A C row hs.1 hg hr, k s A C row hs.2 hg hr⟩
theorem deaf_below {β : Type} {B n₀ : Nat} {w₀ : World} (hn : n₀ ≤ w₀.heap.size) (hB : n₀ ≤ B) : Deaf B (fun (_ : β) W => Below n₀ w₀ W) := fun _ _ _ _ hs hg hr => hs.grown hg (Nat.le_trans hn hs.size) (fun r e => Nat.le_trans hB (hr r e))
theorem deaf_pure {β : Type} (B : Nat) (p : β → Prop) : Deaf B (fun s (_ : World) => p s) := fun _ _ _ _ hs _ _ => hs

def SeqOwn {α : Type} (F : Fence) (n : Nat) (P : Program) (g : Nat) (lb : Array Value) (encs : α → Array Value) (S Sp : List α → Prop) (N : Nat) (w : World) : Prop :=
 ∀ (l : Nat) (J Jx : List α → World → Prop) (W : World), Below w.heap.size w W → w.heap.size ≤ l → l < W.heap.size → Deaf W.heap.size J →
  (∀ pre x A, J pre A → pre.length < N → YieldAt F (n - 1) P l (encs x) A fun e C =>
    (e = .returned (.bool true) ∧ J (pre ++ [x]) C ∧ A.grownBy C (some l)) ∨ (e = .returned (.bool false) ∧ Jx (pre ++ [x]) C)) →
  J [] W →
  CallsIn F n P g (#[.func (.yield l) #[] #[]] ++ lb) W fun e C => (∃ v, e = .returned v) ∧ ((∃ xs, S xs ∧ J xs C) ∨ (∃ pre, Sp pre ∧ Jx pre C))

def roundLeft {α : Type} (B : Nat) (I : List α → World → Prop) (Ix : Code → List α → World → Prop) (xs : List α) (A : World) : Exit → Act → World → Prop
 | .normal, _, C => A.grownBy C none ∧ I xs C
 | .ret, _, C => KeepsFrom B A C ∧ Ix .ret xs C
 | .exit id, _, C => KeepsFrom B A C ∧ Ix (.exit id) xs C
 | .goto t, _, C => KeepsFrom B A C ∧ Ix (.goto t) xs C
 | .panic _, _, _ => False
 | .outgrown, _, _ => False

theorem grown_put_put {A C : World} {l : Nat} {o o' : Obj} (h : (A.putObj l o).grownBy C none) : A.grownBy (C.putObj l o') (some l) := by
 have h1 := grownBy_putObj' A l o
 have h2 := grownBy_putObj' C l o'
 exact ⟨h2.os.trans (h.os.trans h1.os), h2.tape.trans (h.tape.trans h1.tape), h2.output.trans (h.output.trans h1.output), Nat.le_trans h1.size (Nat.le_trans h.size h2.size), fun i hi hne =>
  (h2.block i (Nat.lt_of_lt_of_le hi (Nat.le_trans h1.size h.size)) hne).trans ((h.block i (Nat.lt_of_lt_of_le hi h1.size) (by simp)).trans (h1.block i hi hne))⟩

theorem wpIn_range_own {α : Type} {g : Operand} {ps : Array Tmp} {assign body : Code} {Q : Exit → Act → World → Prop} {a : Act} {w : World}
 (hro : F.round = none) (h1 : 1 ≤ n) {gf : Nat} {lb : Array Value} (hg : a.eval g = .func (.func gf) #[] lb) (hFg : F.fn gf) (eg : ∀ args w, (callFunc gf args).run P w = .ok (.enter gf args) w)
 {encs : α → Array Value} {S Sp : List α → Prop} {N : Nat} (hseq : SeqOwn F (n - 1) P gf lb encs S Sp N w) (hps : ∀ x, (encs x).size = ps.size)
 (I : List α → World → Prop) (Ix : Code → List α → World → Prop) (hI : Deaf w.heap.size I) (hIx : ∀ c, Deaf w.heap.size (Ix c)) (h0 : I [] w)
 (Ax : α → Act → World → Prop) (hAx : ∀ x a' A C l r, Ax x a' A → A.heap[l]? = some (.loop r) → A.grownBy C (some l) → Ax x a' C)
 (hassign : ∀ (l : Nat) (pre : List α) (x : α) (A : World) (K : Act → World → Prop), I pre A → (∀ a' C, A.grownBy C none → Ax x a' C → K a' C) →
   assign.wpIn (F.inRound l) (n - 1 - 1) P (Exit.then K (fun _ _ _ => False)) { tmps := (ps.zip (encs x)).foldl (fun t (p, v) => t.setIfInBounds p v) a.tmps, defers := [] } A)
 (hbody : ∀ (l : Nat) (pre : List α) (x : α) (a' : Act) (A : World), w.heap.size + 1 < A.heap.size → I pre A → Ax x a' A → pre.length < N → body.wpIn (F.inRound l) (n - 1 - 1) P (roundLeft w.heap.size I Ix (pre ++ [x]) A) a' A)
 (hdone : ∀ (D : Nat) (xs : List α) (A : World), w.heap.size ≤ D → S xs → I xs A → A.heap[D]? = some (.deferred (some [])) → Q .normal { a with defers := { target := .collected D, args := #[] } :: a.defers } A)
 (hstop : ∀ (D : Nat) (c : Code) (pre : List α) (A : World), w.heap.size ≤ D → Sp pre → Ix c pre A → A.heap[D]? = some (.deferred (some [])) → c.wpIn F n P Q { a with defers := { target := .collected D, args := #[] } :: a.defers } A) :
 (Code.rangeFunc g ps assign body).wpIn F n P Q a w := by
 refine wpIn_rangeFunc fun fn hfn => ?_
 rw [hro]
 generalize hK : w.heap.size = k at *
 have hrec : ∃ rec : LoopState → Option Code → Loop, (∀ st pe, rec st pe = { state := st, pending := pe, fn, tmps := a.tmps, params := ps, assign, body, defers := k }) := ⟨_, fun _ _ => rfl⟩
 obtain ⟨rec, hrec⟩ := hrec
 have hW1 : ∃ W1, W1 = (w.alloc (.deferred (some []))).alloc (.loop (rec .ready none)) := ⟨_, rfl⟩
 obtain ⟨W1, hW1⟩ := hW1
 have hsz : W1.heap.size = k + 2 := by rw [hW1, ← hK]; simp
 have hL1 : W1.heap[k + 1]? = some (.loop (rec .ready none)) := by
  have := World.alloc_heap_new (w.alloc (.deferred (some []))) (.loop (rec .ready none))
  rw [World.size_alloc, hK] at this
  rw [hW1]; exact this
 have hK1 : W1.heap[k]? = some (.deferred (some [])) := by
  rw [hW1, ← hK]
  exact (Below.heap_alloc _ _ _ (by simp)).trans (World.alloc_heap_new w _)
 have hI1 : I [] W1 := by rw [hW1]; exact hI.alloc (hI.alloc h0 _) _
 have hb1 : Below w.heap.size w W1 := by rw [hW1]; exact ((Below.refl _ w).alloc (Nat.le_refl _) _).alloc (by simp) _
 refine ⟨k + 1, [{ target := .collected k, args := #[] }], W1, { target := .fn (.func gf) lb, args := #[.func (.yield (k + 1)) #[] #[]] }, W1, gf,
  #[.func (.yield (k + 1)) #[] #[]] ++ lb, W1, ?_, ?_, ?_, ?_, fun _ => h1, ?_⟩
 · have := run_enterLoop_outer (P := P) (w := w) fn a.tmps ps assign body
   rw [this, hW1, hrec, hK]
 · simp only [resolve, hg]
   simp [go_sem]
 · intro f' hf'; simp [Target.leads] at hf'; subst hf'; exact hFg
 · simp [invoke, go_sem, eg]
 · -- the records and the invariant go through the iterator
   have hrecs : ∀ {A C : World} {row : Option Nat} {i : Nat} {o : Obj}, A.heap[i]? = some o → A.grownBy C row → (∀ r, row = some r → W1.heap.size ≤ r) → i < k + 2 → C.heap[i]? = some o := fun ho hg' hr hi =>
    (hg'.block _ (Array.getElem?_eq_some_iff.1 ho).1 (fun e => by have := hr _ e.symm; omega)).trans ho
   refine (hseq (k + 1)
    (fun pre W => I pre W ∧ W.heap[k + 1]? = some (.loop (rec .ready none)) ∧ W.heap[k]? = some (.deferred (some [])))
    (fun pre W => ∃ c, Ix c pre W ∧ W.heap[k + 1]? = some (.loop (rec .done (some c))) ∧ W.heap[k]? = some (.deferred (some [])))
    W1 hb1 (by omega) (by omega)
    (fun s A C row hs hg' hr => ⟨hI s A C row hs.1 hg' (fun r e => by have := hr r e; omega), hrecs hs.2.1 hg' hr (by omega), hrecs hs.2.2 hg' hr (by omega)⟩)
    ?_ ⟨hI1, hL1, hK1⟩).mono ?_
   · rintro pre x A ⟨hi, hl, hk⟩ hlen
     have hlt : k + 1 < A.heap.size := (Array.getElem?_eq_some_iff.1 hl).1
     have hy := run_yield (P := P) (args := encs x) hl (by rw [hrec]; exact hps x)
     rw [hrec] at hy
     refine ⟨fn, _, assign, body, hy, roundIn_of_wpIn hfn (hassign _ pre x A _ hi (fun a' A2 hg2 hx2 => ?_))⟩
     have hl2 : A2.heap[k + 1]? = some (.loop (rec .ready none)) := (hg2.block _ hlt (by simp)).trans hl
     have hk2 : A2.heap[k]? = some (.deferred (some [])) := (hg2.block _ (by omega) (by simp)).trans hk
     refine ⟨_, run_beginRound hl2 (by rw [hrec]), ?_⟩
     have hlt2 : k + 1 < A2.heap.size := (Array.getElem?_eq_some_iff.1 hl2).1
     generalize hA3 : A2.putObj (k + 1) (.loop { rec .ready none with state := .busy }) = A3
     have hl3 : A3.heap[k + 1]? = some (.loop { rec .ready none with state := .busy }) := by rw [← hA3]; exact World.putObj_heap_same hlt2
     have hk3 : A3.heap[k]? = some (.deferred (some [])) := by rw [← hA3]; exact (World.putObj_heap_other (by omega)).trans hk2
     have hi3 : I pre A3 := by rw [← hA3]; exact hI.put (hI.none hi hg2) _ (by omega)
     have hx3 : Ax x a' A3 := by rw [← hA3]; exact hAx x a' A2 _ _ _ hx2 hl2 (grownBy_putObj' A2 (k + 1) _)
     have hg3 : (A.putObj (k + 1) (.loop { rec .ready none with state := .busy })).grownBy A3 none := by
      have q1 := grownBy_putObj' A (k + 1) (.loop { rec .ready none with state := .busy })
      have q2 := grownBy_putObj' A2 (k + 1) (.loop { rec .ready none with state := .busy })
      rw [hA3] at q2
      refine ⟨q2.os.trans (hg2.os.trans q1.os.symm), q2.tape.trans (hg2.tape.trans q1.tape.symm), q2.output.trans (hg2.output.trans q1.output.symm), ?_, fun i hi' _ => ?_⟩
      · have e1 : (A.putObj (k + 1) (.loop { rec .ready none with state := .busy })).heap.size = A.heap.size := by simp [World.putObj]
        have := hg2.size
        have := q2.size
        omega
      · have e1 : (A.putObj (k + 1) (.loop { rec .ready none with state := .busy })).heap.size = A.heap.size := by simp [World.putObj]
        by_cases hik : i = k + 1
        · subst hik
          rw [hl3, World.putObj_heap_same hlt]
        · rw [World.putObj_heap_other hik]
          exact (q2.block i (by have := hg2.size; omega) (fun e => hik (by cases e; rfl))).trans (hg2.block i (by omega) (by simp))
     have hlt3 : k + 1 < A3.heap.size := (Array.getElem?_eq_some_iff.1 hl3).1
     clear hA3
     refine wpIn_mono (hbody (k + 1) pre x a' A3 hlt3 hi3 hx3 hlen) ?_
     have fin : ∀ (jump : Option Code) (C : World), C.heap[k + 1]? = some (.loop { rec .ready none with state := .busy }) → C.heap[k]? = some (.deferred (some [])) →
      (Instr.endRound (k + 1) jump).run P C = .ok (.bool jump.isNone) (C.putObj (k + 1) (.loop (rec (if jump.isNone then .ready else .done) jump))) ∧
      (C.putObj (k + 1) (.loop (rec (if jump.isNone then .ready else .done) jump))).heap[k + 1]? = some (.loop (rec (if jump.isNone then .ready else .done) jump)) ∧
      (C.putObj (k + 1) (.loop (rec (if jump.isNone then .ready else .done) jump))).heap[k]? = some (.deferred (some [])) := fun jump C hl4 hk4 => by
      have := run_endRound (P := P) jump hl4
      refine ⟨?_, World.putObj_heap_same (Array.getElem?_eq_some_iff.1 hl4).1, (World.putObj_heap_other (by omega)).trans hk4⟩
      rw [hrec] at this ⊢
      exact this
     rintro e a4 C hp
     cases e with
     | normal =>
      obtain ⟨hg4, hi4⟩ := hp
      obtain ⟨hr, hl5, hk5⟩ := fin none C ((hg4.block _ hlt3 (by simp)).trans hl3) ((hg4.block _ (by omega) (by simp)).trans hk3)
      refine ⟨_, _, hr, .inl ⟨rfl, ⟨hI.put hi4 _ (by omega), hl5, hk5⟩, ?_⟩⟩
      exact grown_put_put ⟨hg4.os.trans hg3.os, hg4.tape.trans hg3.tape, hg4.output.trans hg3.output, Nat.le_trans hg3.size hg4.size, fun i hi' hne => (hg4.block i (Nat.lt_of_lt_of_le hi' hg3.size) hne).trans (hg3.block i hi' hne)⟩
     | ret =>
      obtain ⟨hk4, hi4⟩ := hp
      obtain ⟨hr, hl5, hk5⟩ := fin (some .ret) C (hk4.same _ _ (by omega) hl3 rfl) (hk4.same _ _ (by omega) hk3 rfl)
      exact ⟨_, _, hr, .inr ⟨rfl, .ret, (hIx _).put hi4 _ (by omega), hl5, hk5⟩⟩
     | exit id =>
      obtain ⟨hk4, hi4⟩ := hp
      obtain ⟨hr, hl5, hk5⟩ := fin (some (.exit id)) C (hk4.same _ _ (by omega) hl3 rfl) (hk4.same _ _ (by omega) hk3 rfl)
      exact ⟨_, _, hr, .inr ⟨rfl, .exit id, (hIx _).put hi4 _ (by omega), hl5, hk5⟩⟩
     | goto t =>
      obtain ⟨hk4, hi4⟩ := hp
      obtain ⟨hr, hl5, hk5⟩ := fin (some (.goto t)) C (hk4.same _ _ (by omega) hl3 rfl) (hk4.same _ _ (by omega) hk3 rfl)
      exact ⟨_, _, hr, .inr ⟨rfl, .goto t, (hIx _).put hi4 _ (by omega), hl5, hk5⟩⟩
     | panic ch => exact hp.elim
     | outgrown => exact hp.elim
   · rintro e W2 ⟨⟨v, rfl⟩, (⟨xs, hS, hi, hl, hk⟩ | ⟨pre, hSp, c, hi, hl, hk⟩)⟩
     · exact ⟨none, _, by have := run_endLoop (P := P) hl (by rw [hrec]; simp); rw [hrec] at this; exact this, hdone k xs _ (Nat.le_refl _) hS (hI.put hi _ (by omega)) ((World.putObj_heap_other (by omega)).trans hk)⟩
     · exact ⟨some c, _, by have := run_endLoop (P := P) hl (by rw [hrec]; simp); rw [hrec] at this; exact this, hstop k c pre _ (Nat.le_refl _) hSp ((hIx c).put hi _ (by omega)) ((World.putObj_heap_other (by omega)).trans hk)⟩

theorem wpList_load_g {ops : Array Oper} {rest : List Oper} {op : Oper} {a : Act} {w : World} {Q : Exit → Act → World → Prop} (hw : Region.wanted op (yielded ops a.tmps) = true) (ty : TypeId) (x : Operand) (ho : op.op = .load ty x)
 (b o : Nat) (hx : a.eval x = .pointer (some ⟨b, o, none⟩)) (cs : List Value) (d : TypeDesc) (hc : w.rangeAt b o cs)
 (hu : P.underlying ty = some d) (hd : d.isRow = true) (hi : (P.info? ty).map (·.size) = some cs.length)
 (h : wpList P ops Q rest (a.put op.dst (.agg cs.toArray)) w) : wpList P ops Q (op :: rest) a w :=
 BigFrame.wpList_want hw fun _ hK => wp_load_mid ty x ho b o hx cs d hc hu hd hi (hK _ _ h)
end Go
namespace Go.Proofs.YtnonfdcbnkdmcaaGreatDoor
open Go.RowKit Go.Mem Go.Shelf
attribute [local go_sem] Oper.semAt_some

def rB (f : Nat → Nat) : List Nat := (List.range 32).map fun i => f i % 256
end Go.Proofs.YtnonfdcbnkdmcaaGreatDoor
namespace Go.Proofs.YtnonfdcbnkdmcaaGreatDoor
open Go.RowKit Go.Mem Go.Shelf
open Go.Vw (Hd fitsB)
attribute [local go_sem] Oper.semAt_some

def hdC (h : Hd) : List Value := headC h.st h.fo h.no h.ch h.R h.S
structure OkH (h : Hd) : Prop where
 st : I64 h.st
 fo : I64 h.fo
 no : I64 h.no
 R : I64 h.R
 S : I64 h.S
 ch : h.ch.length = 32 ∧ ∀ u ∈ h.ch, u < 256
theorem hdC_r {h : Hd} (ok : OkH h) : HeadR h.st h.fo h.no h.R h.S h.ch (hdC h) := ⟨rfl, ok.ch.1⟩

end Go.Proofs.YtnonfdcbnkdmcaaGreatDoor
namespace Go.Proofs.YtnonfdcbnkdmcaaGreatDoor
open Go.RowKit Go.Mem Go.Shelf
open Go.Vw (Hd fitsB oddP oddI)

def HV (_ : World) (h : Hd) (r : List Value) : Prop := OkH h ∧ r = hdC h
structure HS (w : World) (a : Option Addr) (n c : Nat) (l : List Hd) : Prop where
 rs : RS 37 HV (fun _ => True) w a n c l
 bd : n ≤ 100000
theorem HS.below {w w' : World} {a : Option Addr} {n c : Nat} {l : List Hd} (h : HS w a n c l) (hb : Below w.heap.size w w') : HS w' a n c l := ⟨h.rs.keep (.below hb) fun _ _ hr => hr, h.bd⟩
theorem HS.nil0 (w : World) : HS w none 0 0 [] := ⟨.nil0 _ _ w, Nat.zero_le _⟩
theorem HS.get {w : World} {a : Option Addr} {n c : Nat} {l : List Hd} (H : HS w a n c l) {k : Nat} {h : Hd} (he : l[k]? = some h) : ∃ b off, a = some ⟨b, off, none⟩ ∧ b < w.heap.size ∧ OkH h ∧ w.rangeAt b (off + k * 37) (hdC h) := by
 obtain ⟨b, off, r, ea, hb, _, ⟨ho, er⟩, _, hr⟩ := H.rs.get he
 subst er
 exact ⟨b, off, ea, hb, ho, hr⟩
theorem hdC_len {h : Hd} (ok : OkH h) : (hdC h).length = 37 := (hdC_r ok).len
theorem infoHd {h : Hd} (ok : OkH h) : Hid ((Tryz.prog.info? 36).map (·.size) = some (hdC h).length) := by show _ = _; rw [hdC_len ok]; exact sizeH
theorem hdC_2 (h : Hd) : (hdC h)[2]? = some (.int .i64 h.no) := rfl

end Go.Proofs.YtnonfdcbnkdmcaaGreatDoor
namespace Go.Mem
open Go.RowKit
variable {P : Program}
theorem load_blk {W : World} {g : Nat} {t ty : TypeId} {r : List Value} {d : TypeDesc} (hB : Blk W g t r) (hu : P.underlying ty = some d) (hd : d.isRow = true) (hi : (P.info? ty).map (·.size) = some r.length) :
 (loadVar ty ⟨g, 0, none⟩).run P W = .ok (.agg r.toArray) W := run_loadVar_mid W g 0 ty r d hB.range hu hd hi

theorem ret_cell {fn : Func} {p : Tmp} {ty t : TypeId} (h : fn.results = #[.cell p ty]) {W : World} {g : Nat} {r : List Value} {d : TypeDesc} (hB : Blk W g t r) (hu : P.underlying ty = some d) (hd : d.isRow = true) (hi : (P.info? ty).map (·.size) = some r.length)
 {a : Act} (hp : a.tmps.getD p undef = .pointer (some ⟨g, 0, none⟩)) (hdf : a.defers = []) {Post : Ending → World → Prop} (hP : Post (.returned (.agg r.toArray)) W) : bodyPost P fn Post .ret a W := by
 refine bodyPost_ret (v := .agg r.toArray) ?_ hdf hP
 have hp' : a.tmps[p]?.getD undef = .pointer (some ⟨g, 0, none⟩) := by simpa using hp
 simp [results, h, hp', asAddr, load_blk hB hu hd hi]

structure Stored (W W2 : World) (g : Nat) (t : TypeId) (vs : List Value) : Prop where
 blk : Blk W2 g t vs
 grown : W.grownBy W2 (some g)
theorem storedB {W : World} {g : Nat} {t : TypeId} {cs vs : List Value} (h : Blk W g t cs) (hl : vs.length = cs.length) : Stored W (W.setCells g 0 vs) g t vs :=
 ⟨by have := Blk.setCells vs (w := W) (g := g) (t := t) (pre := []) (mid := cs) (post := []) (by simpa using h) hl.symm; simpa using this, grown_setCells vs (World.grownBy.refl W _)⟩
theorem Stored.below {W W2 w0 : World} {g B : Nat} {t : TypeId} {vs : List Value} (h : Stored W W2 g t vs) (hb : Below B w0 W) (hB : B ≤ W.heap.size) (hg : B ≤ g) : Below B w0 W2 := below_grown hb h.grown hB hg
theorem Stored.far {W W2 : World} {g g2 : Nat} {t t2 : TypeId} {vs cs : List Value} (h : Stored W W2 g t vs) (h2 : Blk W g2 t2 cs) (hne : g2 ≠ g) : Blk W2 g2 t2 cs := h2.grown h.grown (fun e => hne (by cases e; rfl))
end Go.Mem
namespace Go.Proofs.YtnonfdcbnkdmcaaGreatDoor
open Go.RowKit Go.Mem Go.Shelf
open Go.Vw (Hd fitsB oddP oddI zeroH lastH ownsB verH validB)

def zrH : List Value := headC 0 0 0 (List.replicate 32 0) 0 0
theorem okH0 : OkH zeroH := ⟨i64_0, i64_0, i64_0, i64_0, i64_0, by simp [zeroH, Vw.zd], fun u hu => by have := List.eq_of_mem_replicate hu; omega⟩
theorem hdC0 : hdC zeroH = zrH := rfl
/-! ### views in memory -/
structure VM (w : World) (v : Vw.V) (da : Option Addr) (dn dc : Nat) (ha : Option Addr) (hn hc : Nat) : Prop where
 st : I64 v.st
 fo : I64 v.fo
 pub : I64 v.pub
 ds : DS w da dn dc v.ds
 hs : HS w ha hn hc v.hs
 bd : dn ≤ 100000
theorem VM.below {w w' : World} {v : Vw.V} {da ha : Option Addr} {dn dc hn hc : Nat} (h : VM w v da dn dc ha hn hc) (hb : Below w.heap.size w w') : VM w' v da dn dc ha hn hc :=
 ⟨h.st, h.fo, h.pub, h.ds.below hb, h.hs.below hb, h.bd⟩
end Go.Proofs.YtnonfdcbnkdmcaaGreatDoor
namespace Go.Proofs.YtnonfdcbnkdmcaaGreatDoor
open Go.RowKit Go.Mem Go.Shelf
open Go.Vw (Hd fitsB oddP oddI zeroH lastH ownsB verH validB headOk headsOk rangeB)

theorem hdC_0 (h : Hd) : (hdC h)[0]? = some (.int .i64 h.st) := rfl
theorem hdC_1 (h : Hd) : (hdC h)[1]? = some (.int .i64 h.fo) := rfl
end Go.Proofs.YtnonfdcbnkdmcaaGreatDoor
namespace Go.Proofs.YtnonfdcbnkdmcaaGreatDoor
open Go.RowKit Go.Mem Go.Shelf
open Go.Vw (Hd fitsB oddP oddI zeroH lastH ownsB verH validB headOk headsOk rangeB)

theorem field_g (g : Nat → Nat) (st fo no R S : Int) (W : World) : (Instr.field 36 (.agg (headC st fo no ((List.range 32).map g) R S).toArray) 2).run Tryz.prog W = .ok (.int .i64 no) W := by kernel_rfl
theorem field_no {h : Hd} (ok : OkH h) (W : World) : (Instr.field 36 (.agg (hdC h).toArray) 2).run Tryz.prog W = .ok (.int .i64 h.no) W := by
 unfold hdC
 rw [as_range ok.ch.1]
 exact field_g _ _ _ _ _ _ W
theorem HS.ok {w : World} {a : Option Addr} {n c : Nat} {l : List Hd} (H : HS w a n c l) {h : Hd} (hh : h ∈ l) : OkH h := by
 obtain ⟨k, hk⟩ := List.mem_iff_getElem?.1 hh
 obtain ⟨_, _, _, _, ok, _⟩ := H.get hk
 exact ok
theorem HS.last {w : World} {a : Option Addr} {n c : Nat} {l : List Hd} (H : HS w a n c l) : OkH (lastH l) := by
 cases l with
 | nil => exact okH0
 | cons x r => exact H.ok (Vw.lastH_mem (by simp))
end Go.Proofs.YtnonfdcbnkdmcaaGreatDoor

