/- a range over a function whose iterator writes rows of its own, and one captured variable's box, between the rounds: a law of the walk -/
import Derived.RangeFuncWrites
import Derived.RangeFuncNested
import Derived.RangeFuncRecord
import Derived.RangeFuncBound
import Derived.RangeFuncCalls
import Derived.Test.YthnfjkgiaanmhaaDoorDgs
namespace Go
open Go.RowKit
variable {F : Fence} {n : Nat} {P : Program}

/-- what abides a change of a block of R. -/
def Deaf {β : Type} (R : Nat → Prop) (J : β → World → Prop) : Prop := ∀ s A C row, J s A → A.grownBy C row → (∀ r, row = some r → R r) → J s C
theorem Deaf.none {β : Type} {R : Nat → Prop} {J : β → World → Prop} (h : Deaf R J) {s : β} {A C : World} (hs : J s A) (hg : A.grownBy C none) : J s C := h s A C Option.none hs hg (fun _ e => by cases e)
theorem Deaf.put {β : Type} {R : Nat → Prop} {J : β → World → Prop} (h : Deaf R J) {s : β} {A : World} (hs : J s A) {l : Nat} (o : Obj) (hl : R l) : J s (A.putObj l o) :=
  h s A _ (some l) hs (grownBy_putObj' A l o) (fun r e => by cases e; exact hl)
theorem Deaf.alloc {β : Type} {R : Nat → Prop} {J : β → World → Prop} (h : Deaf R J) {s : β} {A : World} (hs : J s A) (o : Obj) : J s (A.alloc o) := h.none hs (World.grownBy_alloc A o Option.none)
theorem Deaf.and {β : Type} {R : Nat → Prop} {I J : β → World → Prop} (h : Deaf R I) (k : Deaf R J) : Deaf R (fun s W => I s W ∧ J s W) := fun s A C row hs hg hr => ⟨h s A C row hs.1 hg hr, k s A C row hs.2 hg hr⟩
theorem deaf_below {β : Type} {R : Nat → Prop} {n₀ : Nat} {w₀ : World} (hn : n₀ ≤ w₀.heap.size) (hB : ∀ r, R r → n₀ ≤ r) : Deaf R (fun (_ : β) W => Below n₀ w₀ W) := fun _ _ _ _ hs hg hr => hs.grown hg (Nat.le_trans hn hs.size) (fun r e => hB r (hr r e))
theorem deaf_pure {β : Type} (R : Nat → Prop) (p : β → Prop) : Deaf R (fun s (_ : World) => p s) := fun _ _ _ _ hs _ _ => hs
/-- the blocks that a loop over an iterator turns: its records and the iterator's captured variable. -/
def LoopR (q k : Nat) (r : Nat) : Prop := r = q ∨ r = k ∨ r = k + 1

/-- what a round that goes on leaves as it was: the blocks below B, but one that the body writes. -/
def KpZ (B z : Nat) (A C : World) : Prop := A.heap.size ≤ C.heap.size ∧ ∀ i, i < B → i ≠ z → C.heap[i]? = A.heap[i]?
/-- an iterator's contract: between two rounds it may write what it has made itself; a round that goes on changes nothing that lay, but the loop's record. -/
def SeqOwn {α : Type} (q z : Nat) (F : Fence) (n : Nat) (P : Program) (g : Nat) (lb : Array Value) (encs : α → Array Value) (S Sp : List α → Prop) (Ex : α → Prop) (N : Nat) (w : World) : Prop :=
  ∀ (l : Nat) (J Jx : List α → World → Prop) (W : World), Below w.heap.size w W → w.heap.size ≤ l → l < W.heap.size → Deaf (fun r => r = q) J →
    (∀ pre x A, J pre A → pre.length < N → Ex x → YieldAt F (n - 1) P l (encs x) A fun e C =>
      (e = .returned (.bool true) ∧ J (pre ++ [x]) C ∧ KpZ w.heap.size z A C) ∨ (e = .returned (.bool false) ∧ Jx (pre ++ [x]) C)) →
    J [] W →
    CallsIn F n P g (#[.func (.yield l) #[] #[]] ++ lb) W fun e C => (∃ v, e = .returned v) ∧ ((∃ xs, S xs ∧ J xs C) ∨ (∃ pre, Sp pre ∧ Jx pre C))

/-- how a round's body is left. -/
def roundLeft {α : Type} (z B : Nat) (I : List α → World → Prop) (Ix : Code → List α → World → Prop) (xs : List α) (A : World) : Exit → Act → World → Prop
  | .normal, _, C => KeepsFrom B A C ∧ KpZ B z A C ∧ I xs C
  | .ret, _, C => KeepsFrom B A C ∧ Ix .ret xs C
  | .exit id, _, C => KeepsFrom B A C ∧ Ix (.exit id) xs C
  | .goto t, _, C => KeepsFrom B A C ∧ Ix (.goto t) xs C
  | .panic _, _, _ => False
  | .outgrown, _, _ => False

theorem grown_put_put {A C : World} {l : Nat} {o o' : Obj} (h : (A.putObj l o).grownBy C none) : A.grownBy (C.putObj l o') (some l) := by
  have h1 := grownBy_putObj' A l o
  have h2 := grownBy_putObj' C l o'
  exact ⟨h2.os.trans (h.os.trans h1.os), h2.tape.trans (h.tape.trans h1.tape), h2.output.trans (h.output.trans h1.output), Nat.le_trans h1.size (Nat.le_trans h.size h2.size), fun i hi hne =>
    (h2.block i (Nat.lt_of_lt_of_le hi (Nat.le_trans h1.size h.size)) hne).trans ((h.block i (Nat.lt_of_lt_of_le hi h1.size) (by simp)).trans (h1.block i hi hne))⟩

theorem wpIn_range_own {α : Type} {q z : Nat} {g : Operand} {ps : Array Tmp} {assign body : Code} {Q : Exit → Act → World → Prop} {a : Act} {w : World}
    (hq : q < w.heap.size) (hro : F.round = none) (h1 : 1 ≤ n) {gf : Nat} {lb : Array Value} (hg : a.eval g = .func (.func gf) #[] lb) (hFg : F.fn gf) (eg : ∀ args w, (callFunc gf args).run P w = .ok (.enter gf args) w)
    {encs : α → Array Value} {S Sp : List α → Prop} {Ex : α → Prop} {N : Nat} (hseq : SeqOwn q z F (n - 1) P gf lb encs S Sp Ex N w) (hps : ∀ x, (encs x).size = ps.size)
    (I : List α → World → Prop) (Ix : Code → List α → World → Prop) (hI : Deaf (LoopR q w.heap.size) I) (hIx : ∀ c, Deaf (LoopR q w.heap.size) (Ix c)) (h0 : I [] w)
    (Ax : α → Act → World → Prop) (hAx : ∀ x a' A C l r, Ax x a' A → A.heap[l]? = some (.loop r) → A.grownBy C (some l) → Ax x a' C)
    (hassign : ∀ (l : Nat) (pre : List α) (x : α) (A : World) (K : Act → World → Prop), I pre A → Ex x → (∀ a' C, A.grownBy C none → Ax x a' C → K a' C) →
      assign.wpIn (F.inRound l) (n - 1 - 1) P (Exit.then K (fun _ _ _ => False)) { tmps := (ps.zip (encs x)).foldl (fun t (p, v) => t.setIfInBounds p v) a.tmps, defers := [] } A)
    (hbody : ∀ (l : Nat) (pre : List α) (x : α) (a' : Act) (A : World), w.heap.size + 1 < A.heap.size → I pre A → Ax x a' A → pre.length < N → Ex x → body.wpIn (F.inRound l) (n - 1 - 1) P (roundLeft z w.heap.size I Ix (pre ++ [x]) A) a' A)
    (hdone : ∀ (D : Nat) (xs : List α) (A : World), w.heap.size ≤ D → S xs → I xs A → A.heap[D]? = some (.deferred (some [])) → Q .normal { a with defers := { target := .collected D, args := #[] } :: a.defers } A)
    (hstop : ∀ (D : Nat) (c : Code) (pre : List α) (A : World), w.heap.size ≤ D → Sp pre → Ix c pre A → A.heap[D]? = some (.deferred (some [])) → c.wpIn F n P Q { a with defers := { target := .collected D, args := #[] } :: a.defers } A) :
    (Code.rangeFunc g ps assign body).wpIn F n P Q a w := by
  refine wpIn_rangeFunc fun fn hfn => ?_
  rw [hro]
  generalize hK : w.heap.size = k at *
  have hrec : ∃ rec : LoopState → Option Code → Loop, (∀ st pe, rec st pe = { state := st, pending := pe, fn, tmps := a.tmps, params := ps, assign, body, defers := k }) := ⟨_, fun _ _ => rfl⟩
  obtain ⟨rec, hrec⟩ := hrec
  have hW1 : ∃ W1, W1 = (w.alloc (.deferred (some []))).alloc (.loop (rec .ready none)) := ⟨_, rfl⟩
  obtain ⟨W1, hW1⟩ := hW1
  have hsz : W1.heap.size = k + 2 := by rw [hW1, ← hK]; simp
  have hL1 : W1.heap[k + 1]? = some (.loop (rec .ready none)) := by
    have := World.alloc_heap_new (w.alloc (.deferred (some []))) (.loop (rec .ready none))
    rw [World.size_alloc, hK] at this
    rw [hW1]; exact this
  have hK1 : W1.heap[k]? = some (.deferred (some [])) := by
    rw [hW1, ← hK]
    exact (Below.heap_alloc _ _ _ (by simp)).trans (World.alloc_heap_new w _)
  have hI1 : I [] W1 := by rw [hW1]; exact hI.alloc (hI.alloc h0 _) _
  have hb1 : Below w.heap.size w W1 := by rw [hW1]; exact ((Below.refl _ w).alloc (Nat.le_refl _) _).alloc (by simp) _
  refine ⟨k + 1, [{ target := .collected k, args := #[] }], W1, { target := .fn (.func gf) lb, args := #[.func (.yield (k + 1)) #[] #[]] }, W1, gf,
    #[.func (.yield (k + 1)) #[] #[]] ++ lb, W1, ?_, ?_, ?_, ?_, fun _ => h1, ?_⟩
  · have := run_enterLoop_outer (P := P) (w := w) fn a.tmps ps assign body
    rw [this, hW1, hrec, hK]
  · simp only [resolve, hg]
    simp [go_sem]
  · intro f' hf'; simp [Target.leads] at hf'; subst hf'; exact hFg
  · simp [invoke, go_sem, eg]
  · -- the records and the invariant go through the iterator
    have hrecs : ∀ {A C : World} {row : Option Nat} {i : Nat} {o : Obj}, A.heap[i]? = some o → A.grownBy C row → (∀ r, row = some r → r = q) → i < k + 2 → k ≤ i → C.heap[i]? = some o := fun ho hg' hr hi hki =>
      (hg'.block _ (Array.getElem?_eq_some_iff.1 ho).1 (fun e => by have := hr _ e.symm; omega)).trans ho
    refine (hseq (k + 1)
      (fun pre W => I pre W ∧ W.heap[k + 1]? = some (.loop (rec .ready none)) ∧ W.heap[k]? = some (.deferred (some [])))
      (fun pre W => ∃ c, Ix c pre W ∧ W.heap[k + 1]? = some (.loop (rec .done (some c))) ∧ W.heap[k]? = some (.deferred (some [])))
      W1 hb1 (by omega) (by omega)
      (fun s A C row hs hg' hr => ⟨hI s A C row hs.1 hg' (fun r e => .inl (hr r e)), hrecs hs.2.1 hg' hr (by omega) (by omega), hrecs hs.2.2 hg' hr (by omega) (by omega)⟩)
      ?_ ⟨hI1, hL1, hK1⟩).mono ?_
    · rintro pre x A ⟨hi, hl, hk⟩ hlen hex
      have hlt : k + 1 < A.heap.size := (Array.getElem?_eq_some_iff.1 hl).1
      have hy := run_yield (P := P) (args := encs x) hl (by rw [hrec]; exact hps x)
      rw [hrec] at hy
      refine ⟨fn, _, assign, body, hy, roundIn_of_wpIn hfn (hassign _ pre x A _ hi hex (fun a' A2 hg2 hx2 => ?_))⟩
      have hl2 : A2.heap[k + 1]? = some (.loop (rec .ready none)) := (hg2.block _ hlt (by simp)).trans hl
      have hk2 : A2.heap[k]? = some (.deferred (some [])) := (hg2.block _ (by omega) (by simp)).trans hk
      refine ⟨_, run_beginRound hl2 (by rw [hrec]), ?_⟩
      have hlt2 : k + 1 < A2.heap.size := (Array.getElem?_eq_some_iff.1 hl2).1
      generalize hA3 : A2.putObj (k + 1) (.loop { rec .ready none with state := .busy }) = A3
      have hl3 : A3.heap[k + 1]? = some (.loop { rec .ready none with state := .busy }) := by rw [← hA3]; exact World.putObj_heap_same hlt2
      have hk3 : A3.heap[k]? = some (.deferred (some [])) := by rw [← hA3]; exact (World.putObj_heap_other (by omega)).trans hk2
      have hi3 : I pre A3 := by rw [← hA3]; exact hI.put (hI.none hi hg2) _ (.inr (.inr rfl))
      have hx3 : Ax x a' A3 := by rw [← hA3]; exact hAx x a' A2 _ _ _ hx2 hl2 (grownBy_putObj' A2 (k + 1) _)
      have hg3 : (A.putObj (k + 1) (.loop { rec .ready none with state := .busy })).grownBy A3 none := by
        have q1 := grownBy_putObj' A (k + 1) (.loop { rec .ready none with state := .busy })
        have q2 := grownBy_putObj' A2 (k + 1) (.loop { rec .ready none with state := .busy })
        rw [hA3] at q2
        refine ⟨q2.os.trans (hg2.os.trans q1.os.symm), q2.tape.trans (hg2.tape.trans q1.tape.symm), q2.output.trans (hg2.output.trans q1.output.symm), ?_, fun i hi' _ => ?_⟩
        · have e1 : (A.putObj (k + 1) (.loop { rec .ready none with state := .busy })).heap.size = A.heap.size := by simp [World.putObj]
          have := hg2.size
          have := q2.size
          omega
        · have e1 : (A.putObj (k + 1) (.loop { rec .ready none with state := .busy })).heap.size = A.heap.size := by simp [World.putObj]
          by_cases hik : i = k + 1
          · subst hik
            rw [hl3, World.putObj_heap_same hlt]
          · rw [World.putObj_heap_other hik]
            exact (q2.block i (by have := hg2.size; omega) (fun e => hik (by cases e; rfl))).trans (hg2.block i (by omega) (by simp))
      have hlt3 : k + 1 < A3.heap.size := (Array.getElem?_eq_some_iff.1 hl3).1
      clear hA3
      refine wpIn_mono (hbody (k + 1) pre x a' A3 hlt3 hi3 hx3 hlen hex) ?_
      have fin : ∀ (jump : Option Code) (C : World), C.heap[k + 1]? = some (.loop { rec .ready none with state := .busy }) → C.heap[k]? = some (.deferred (some [])) →
          (Instr.endRound (k + 1) jump).run P C = .ok (.bool jump.isNone) (C.putObj (k + 1) (.loop (rec (if jump.isNone then .ready else .done) jump))) ∧
          (C.putObj (k + 1) (.loop (rec (if jump.isNone then .ready else .done) jump))).heap[k + 1]? = some (.loop (rec (if jump.isNone then .ready else .done) jump)) ∧
          (C.putObj (k + 1) (.loop (rec (if jump.isNone then .ready else .done) jump))).heap[k]? = some (.deferred (some [])) := fun jump C hl4 hk4 => by
        have := run_endRound (P := P) jump hl4
        refine ⟨?_, World.putObj_heap_same (Array.getElem?_eq_some_iff.1 hl4).1, (World.putObj_heap_other (by omega)).trans hk4⟩
        rw [hrec] at this ⊢
        exact this
      rintro e a4 C hp
      cases e with
      | normal =>
        obtain ⟨hk4, hz4, hi4⟩ := hp
        obtain ⟨hr, hl5, hk5⟩ := fin none C (hk4.same _ _ (by omega) hl3 rfl) (hk4.same _ _ (by omega) hk3 rfl)
        refine ⟨_, _, hr, .inl ⟨rfl, ⟨hI.put hi4 _ (.inr (.inr rfl)), hl5, hk5⟩, ?_, fun i hi' hne => ?_⟩⟩
        · have e1 := hg3.size
          have e2 : (A.putObj (k + 1) (.loop { rec .ready none with state := .busy })).heap.size = A.heap.size := by simp [World.putObj]
          have e3 : (C.putObj (k + 1) (.loop (rec (if (none : Option Code).isNone then .ready else .done) none))).heap.size = C.heap.size := by simp [World.putObj]
          have := hz4.1
          omega
        · have h1 : A.heap.size = (A.putObj (k + 1) (.loop { rec .ready none with state := .busy })).heap.size := by simp [World.putObj]
          rw [World.putObj_heap_other (by omega), hz4.2 i (by omega) hne, hg3.block i (by omega) (by simp), World.putObj_heap_other (by omega)]
      | ret =>
        obtain ⟨hk4, hi4⟩ := hp
        obtain ⟨hr, hl5, hk5⟩ := fin (some .ret) C (hk4.same _ _ (by omega) hl3 rfl) (hk4.same _ _ (by omega) hk3 rfl)
        exact ⟨_, _, hr, .inr ⟨rfl, .ret, (hIx _).put hi4 _ (.inr (.inr rfl)), hl5, hk5⟩⟩
      | exit id =>
        obtain ⟨hk4, hi4⟩ := hp
        obtain ⟨hr, hl5, hk5⟩ := fin (some (.exit id)) C (hk4.same _ _ (by omega) hl3 rfl) (hk4.same _ _ (by omega) hk3 rfl)
        exact ⟨_, _, hr, .inr ⟨rfl, .exit id, (hIx _).put hi4 _ (.inr (.inr rfl)), hl5, hk5⟩⟩
      | goto t =>
        obtain ⟨hk4, hi4⟩ := hp
        obtain ⟨hr, hl5, hk5⟩ := fin (some (.goto t)) C (hk4.same _ _ (by omega) hl3 rfl) (hk4.same _ _ (by omega) hk3 rfl)
        exact ⟨_, _, hr, .inr ⟨rfl, .goto t, (hIx _).put hi4 _ (.inr (.inr rfl)), hl5, hk5⟩⟩
      | panic ch => exact hp.elim
      | outgrown => exact hp.elim
    · rintro e W2 ⟨⟨v, rfl⟩, (⟨xs, hS, hi, hl, hk⟩ | ⟨pre, hSp, c, hi, hl, hk⟩)⟩
      · exact ⟨none, _, by have := run_endLoop (P := P) hl (by rw [hrec]; simp); rw [hrec] at this; exact this, hdone k xs _ (Nat.le_refl _) hS (hI.put hi _ (.inr (.inr rfl))) ((World.putObj_heap_other (by omega)).trans hk)⟩
      · exact ⟨some c, _, by have := run_endLoop (P := P) hl (by rw [hrec]; simp); rw [hrec] at this; exact this, hstop k c pre _ (Nat.le_refl _) hSp ((hIx c).put hi _ (.inr (.inr rfl))) ((World.putObj_heap_other (by omega)).trans hk)⟩
end Go
