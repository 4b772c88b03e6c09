/- digests and roots compared -/
import Derived.RangeFuncWrites
import Derived.RangeFuncNested
import Derived.RangeFuncRecord
import Derived.RangeFuncBound
import Derived.RangeFuncCalls
import Derived.Test.YthhblcbnnmoojaaGreatDoorDgs
import Derived.Test.YthhblcbnnmoojaaGreatDoorDiG
import Derived.RangeFuncFrom
import Derived.RangeFuncBox
import Derived.RangeFuncLeaves
import Derived.Shelf.Abstract
import Derived.OwnWalkIn
import Derived.TacticsInMore
import Derived.LoopNIn
import Derived.LoopIn
import Derived.Stop.RegionWithIn
import Derived.Laws.AppendOwn
import Derived.Test.YthhblcbnnmoojaaGreatDoorRwR
import Derived.DeepKeys4
namespace Go
open Go.RowKit
variable {F : Fence} {n : Nat} {P : Program}

/-- what abides a change of a block of R. -/
def Deaf {β : Type} (R : Nat → Prop) (J : β → World → Prop) : Prop := ∀ s A C row, J s A → A.grownBy C row → (∀ r, row = some r → R r) → J s C
theorem Deaf.none {β : Type} {R : Nat → Prop} {J : β → World → Prop} (h : Deaf R J) {s : β} {A C : World} (hs : J s A) (hg : A.grownBy C none) : J s C := h s A C Option.none hs hg (fun _ e => by cases e)
theorem Deaf.put {β : Type} {R : Nat → Prop} {J : β → World → Prop} (h : Deaf R J) {s : β} {A : World} (hs : J s A) {l : Nat} (o : Obj) (hl : R l) : J s (A.putObj l o) :=
  h s A _ (some l) hs (grownBy_putObj' A l o) (fun r e => by cases e; exact hl)
theorem Deaf.alloc {β : Type} {R : Nat → Prop} {J : β → World → Prop} (h : Deaf R J) {s : β} {A : World} (hs : J s A) (o : Obj) : J s (A.alloc o) := h.none hs (World.grownBy_alloc A o Option.none)
theorem Deaf.and {β : Type} {R : Nat → Prop} {I J : β → World → Prop} (h : Deaf R I) (k : Deaf R J) : Deaf R (fun s W => I s W ∧ J s W) := fun s A C row hs hg hr => ⟨h s A C row hs.1 hg hr, k s A C row hs.2 hg hr⟩
theorem deaf_below {β : Type} {R : Nat → Prop} {n₀ : Nat} {w₀ : World} (hn : n₀ ≤ w₀.heap.size) (hB : ∀ r, R r → n₀ ≤ r) : Deaf R (fun (_ : β) W => Below n₀ w₀ W) := fun _ _ _ _ hs hg hr => hs.grown hg (Nat.le_trans hn hs.size) (fun r e => hB r (hr r e))
theorem deaf_pure {β : Type} (R : Nat → Prop) (p : β → Prop) : Deaf R (fun s (_ : World) => p s) := fun _ _ _ _ hs _ _ => hs
/-- the blocks that a loop over an iterator turns: its records and the iterator's captured variable. -/
def LoopR (q k : Nat) (r : Nat) : Prop := r = q ∨ r = k ∨ r = k + 1

/-- what a round that goes on leaves as it was: the blocks below B, but one that the body writes. -/
def KpZ (B z : Nat) (A C : World) : Prop := A.heap.size ≤ C.heap.size ∧ ∀ i, i < B → i ≠ z → C.heap[i]? = A.heap[i]?
/-- an iterator's contract: between two rounds it may write what it has made itself; a round that goes on changes nothing that lay, but the loop's record. -/
def SeqOwn {α : Type} (q z : Nat) (F : Fence) (n : Nat) (P : Program) (g : Nat) (lb : Array Value) (encs : α → Array Value) (S Sp : List α → Prop) (Ex : α → Prop) (N : Nat) (w : World) : Prop :=
  ∀ (l : Nat) (J Jx : List α → World → Prop) (W : World), Below w.heap.size w W → w.heap.size ≤ l → l < W.heap.size → Deaf (fun r => r = q) J →
    (∀ pre x A, J pre A → pre.length < N → Ex x → YieldAt F (n - 1) P l (encs x) A fun e C =>
      (e = .returned (.bool true) ∧ J (pre ++ [x]) C ∧ KpZ w.heap.size z A C) ∨ (e = .returned (.bool false) ∧ Jx (pre ++ [x]) C)) →
    J [] W →
    CallsIn F n P g (#[.func (.yield l) #[] #[]] ++ lb) W fun e C => (∃ v, e = .returned v) ∧ ((∃ xs, S xs ∧ J xs C) ∨ (∃ pre, Sp pre ∧ Jx pre C))

/-- how a round's body is left. -/
def roundLeft {α : Type} (z B : Nat) (I : List α → World → Prop) (Ix : Code → List α → World → Prop) (xs : List α) (A : World) : Exit → Act → World → Prop
  | .normal, _, C => KeepsFrom B A C ∧ KpZ B z A C ∧ I xs C
  | .ret, _, C => KeepsFrom B A C ∧ Ix .ret xs C
  | .exit id, _, C => KeepsFrom B A C ∧ Ix (.exit id) xs C
  | .goto t, _, C => KeepsFrom B A C ∧ Ix (.goto t) xs C
  | .panic _, _, _ => False
  | .outgrown, _, _ => False

theorem grown_put_put {A C : World} {l : Nat} {o o' : Obj} (h : (A.putObj l o).grownBy C none) : A.grownBy (C.putObj l o') (some l) := by
  have h1 := grownBy_putObj' A l o
  have h2 := grownBy_putObj' C l o'
  exact ⟨h2.os.trans (h.os.trans h1.os), h2.tape.trans (h.tape.trans h1.tape), h2.output.trans (h.output.trans h1.output), Nat.le_trans h1.size (Nat.le_trans h.size h2.size), fun i hi hne =>
    (h2.block i (Nat.lt_of_lt_of_le hi (Nat.le_trans h1.size h.size)) hne).trans ((h.block i (Nat.lt_of_lt_of_le hi h1.size) (by simp)).trans (h1.block i hi hne))⟩

theorem wpIn_range_own {α : Type} {q z : Nat} {g : Operand} {ps : Array Tmp} {assign body : Code} {Q : Exit → Act → World → Prop} {a : Act} {w : World}
    (hq : q < w.heap.size) (hro : F.round = none) (h1 : 1 ≤ n) {gf : Nat} {lb : Array Value} (hg : a.eval g = .func (.func gf) #[] lb) (hFg : F.fn gf) (eg : ∀ args w, (callFunc gf args).run P w = .ok (.enter gf args) w)
    {encs : α → Array Value} {S Sp : List α → Prop} {Ex : α → Prop} {N : Nat} (hseq : SeqOwn q z F (n - 1) P gf lb encs S Sp Ex N w) (hps : ∀ x, (encs x).size = ps.size)
    (I : List α → World → Prop) (Ix : Code → List α → World → Prop) (hI : Deaf (LoopR q w.heap.size) I) (hIx : ∀ c, Deaf (LoopR q w.heap.size) (Ix c)) (h0 : I [] w)
    (Ax : α → Act → World → Prop) (hAx : ∀ x a' A C l r, Ax x a' A → A.heap[l]? = some (.loop r) → A.grownBy C (some l) → Ax x a' C)
    (hassign : ∀ (l : Nat) (pre : List α) (x : α) (A : World) (K : Act → World → Prop), I pre A → Ex x → (∀ a' C, A.grownBy C none → Ax x a' C → K a' C) →
      assign.wpIn (F.inRound l) (n - 1 - 1) P (Exit.then K (fun _ _ _ => False)) { tmps := (ps.zip (encs x)).foldl (fun t (p, v) => t.setIfInBounds p v) a.tmps, defers := [] } A)
    (hbody : ∀ (l : Nat) (pre : List α) (x : α) (a' : Act) (A : World), w.heap.size + 1 < A.heap.size → I pre A → Ax x a' A → pre.length < N → Ex x → body.wpIn (F.inRound l) (n - 1 - 1) P (roundLeft z w.heap.size I Ix (pre ++ [x]) A) a' A)
    (hdone : ∀ (D : Nat) (xs : List α) (A : World), w.heap.size ≤ D → S xs → I xs A → A.heap[D]? = some (.deferred (some [])) → Q .normal { a with defers := { target := .collected D, args := #[] } :: a.defers } A)
    (hstop : ∀ (D : Nat) (c : Code) (pre : List α) (A : World), w.heap.size ≤ D → Sp pre → Ix c pre A → A.heap[D]? = some (.deferred (some [])) → c.wpIn F n P Q { a with defers := { target := .collected D, args := #[] } :: a.defers } A) :
    (Code.rangeFunc g ps assign body).wpIn F n P Q a w := by
  refine wpIn_rangeFunc fun fn hfn => ?_
  rw [hro]
  generalize hK : w.heap.size = k at *
  have hrec : ∃ rec : LoopState → Option Code → Loop, (∀ st pe, rec st pe = { state := st, pending := pe, fn, tmps := a.tmps, params := ps, assign, body, defers := k }) := ⟨_, fun _ _ => rfl⟩
  obtain ⟨rec, hrec⟩ := hrec
  have hW1 : ∃ W1, W1 = (w.alloc (.deferred (some []))).alloc (.loop (rec .ready none)) := ⟨_, rfl⟩
  obtain ⟨W1, hW1⟩ := hW1
  have hsz : W1.heap.size = k + 2 := by rw [hW1, ← hK]; simp
  have hL1 : W1.heap[k + 1]? = some (.loop (rec .ready none)) := by
    have := World.alloc_heap_new (w.alloc (.deferred (some []))) (.loop (rec .ready none))
    rw [World.size_alloc, hK] at this
    rw [hW1]; exact this
  have hK1 : W1.heap[k]? = some (.deferred (some [])) := by
    rw [hW1, ← hK]
    exact (Below.heap_alloc _ _ _ (by simp)).trans (World.alloc_heap_new w _)
  have hI1 : I [] W1 := by rw [hW1]; exact hI.alloc (hI.alloc h0 _) _
  have hb1 : Below w.heap.size w W1 := by rw [hW1]; exact ((Below.refl _ w).alloc (Nat.le_refl _) _).alloc (by simp) _
  refine ⟨k + 1, [{ target := .collected k, args := #[] }], W1, { target := .fn (.func gf) lb, args := #[.func (.yield (k + 1)) #[] #[]] }, W1, gf,
    #[.func (.yield (k + 1)) #[] #[]] ++ lb, W1, ?_, ?_, ?_, ?_, fun _ => h1, ?_⟩
  · have := run_enterLoop_outer (P := P) (w := w) fn a.tmps ps assign body
    rw [this, hW1, hrec, hK]
  · simp only [resolve, hg]
    simp [go_sem]
  · intro f' hf'; simp [Target.leads] at hf'; subst hf'; exact hFg
  · simp [invoke, go_sem, eg]
  · -- the records and the invariant go through the iterator
    have hrecs : ∀ {A C : World} {row : Option Nat} {i : Nat} {o : Obj}, A.heap[i]? = some o → A.grownBy C row → (∀ r, row = some r → r = q) → i < k + 2 → k ≤ i → C.heap[i]? = some o := fun ho hg' hr hi hki =>
      (hg'.block _ (Array.getElem?_eq_some_iff.1 ho).1 (fun e => by have := hr _ e.symm; omega)).trans ho
    refine (hseq (k + 1)
      (fun pre W => I pre W ∧ W.heap[k + 1]? = some (.loop (rec .ready none)) ∧ W.heap[k]? = some (.deferred (some [])))
      (fun pre W => ∃ c, Ix c pre W ∧ W.heap[k + 1]? = some (.loop (rec .done (some c))) ∧ W.heap[k]? = some (.deferred (some [])))
      W1 hb1 (by omega) (by omega)
      (fun s A C row hs hg' hr => ⟨hI s A C row hs.1 hg' (fun r e => .inl (hr r e)), hrecs hs.2.1 hg' hr (by omega) (by omega), hrecs hs.2.2 hg' hr (by omega) (by omega)⟩)
      ?_ ⟨hI1, hL1, hK1⟩).mono ?_
    · rintro pre x A ⟨hi, hl, hk⟩ hlen hex
      have hlt : k + 1 < A.heap.size := (Array.getElem?_eq_some_iff.1 hl).1
      have hy := run_yield (P := P) (args := encs x) hl (by rw [hrec]; exact hps x)
      rw [hrec] at hy
      refine ⟨fn, _, assign, body, hy, roundIn_of_wpIn hfn (hassign _ pre x A _ hi hex (fun a' A2 hg2 hx2 => ?_))⟩
      have hl2 : A2.heap[k + 1]? = some (.loop (rec .ready none)) := (hg2.block _ hlt (by simp)).trans hl
      have hk2 : A2.heap[k]? = some (.deferred (some [])) := (hg2.block _ (by omega) (by simp)).trans hk
      refine ⟨_, run_beginRound hl2 (by rw [hrec]), ?_⟩
      have hlt2 : k + 1 < A2.heap.size := (Array.getElem?_eq_some_iff.1 hl2).1
      generalize hA3 : A2.putObj (k + 1) (.loop { rec .ready none with state := .busy }) = A3
      have hl3 : A3.heap[k + 1]? = some (.loop { rec .ready none with state := .busy }) := by rw [← hA3]; exact World.putObj_heap_same hlt2
      have hk3 : A3.heap[k]? = some (.deferred (some [])) := by rw [← hA3]; exact (World.putObj_heap_other (by omega)).trans hk2
      have hi3 : I pre A3 := by rw [← hA3]; exact hI.put (hI.none hi hg2) _ (.inr (.inr rfl))
      have hx3 : Ax x a' A3 := by rw [← hA3]; exact hAx x a' A2 _ _ _ hx2 hl2 (grownBy_putObj' A2 (k + 1) _)
      have hg3 : (A.putObj (k + 1) (.loop { rec .ready none with state := .busy })).grownBy A3 none := by
        have q1 := grownBy_putObj' A (k + 1) (.loop { rec .ready none with state := .busy })
        have q2 := grownBy_putObj' A2 (k + 1) (.loop { rec .ready none with state := .busy })
        rw [hA3] at q2
        refine ⟨q2.os.trans (hg2.os.trans q1.os.symm), q2.tape.trans (hg2.tape.trans q1.tape.symm), q2.output.trans (hg2.output.trans q1.output.symm), ?_, fun i hi' _ => ?_⟩
        · have e1 : (A.putObj (k + 1) (.loop { rec .ready none with state := .busy })).heap.size = A.heap.size := by simp [World.putObj]
          have := hg2.size
          have := q2.size
          omega
        · have e1 : (A.putObj (k + 1) (.loop { rec .ready none with state := .busy })).heap.size = A.heap.size := by simp [World.putObj]
          by_cases hik : i = k + 1
          · subst hik
            rw [hl3, World.putObj_heap_same hlt]
          · rw [World.putObj_heap_other hik]
            exact (q2.block i (by have := hg2.size; omega) (fun e => hik (by cases e; rfl))).trans (hg2.block i (by omega) (by simp))
      have hlt3 : k + 1 < A3.heap.size := (Array.getElem?_eq_some_iff.1 hl3).1
      clear hA3
      refine wpIn_mono (hbody (k + 1) pre x a' A3 hlt3 hi3 hx3 hlen hex) ?_
      have fin : ∀ (jump : Option Code) (C : World), C.heap[k + 1]? = some (.loop { rec .ready none with state := .busy }) → C.heap[k]? = some (.deferred (some [])) →
          (Instr.endRound (k + 1) jump).run P C = .ok (.bool jump.isNone) (C.putObj (k + 1) (.loop (rec (if jump.isNone then .ready else .done) jump))) ∧
          (C.putObj (k + 1) (.loop (rec (if jump.isNone then .ready else .done) jump))).heap[k + 1]? = some (.loop (rec (if jump.isNone then .ready else .done) jump)) ∧
          (C.putObj (k + 1) (.loop (rec (if jump.isNone then .ready else .done) jump))).heap[k]? = some (.deferred (some [])) := fun jump C hl4 hk4 => by
        have := run_endRound (P := P) jump hl4
        refine ⟨?_, World.putObj_heap_same (Array.getElem?_eq_some_iff.1 hl4).1, (World.putObj_heap_other (by omega)).trans hk4⟩
        rw [hrec] at this ⊢
        exact this
      rintro e a4 C hp
      cases e with
      | normal =>
        obtain ⟨hk4, hz4, hi4⟩ := hp
        obtain ⟨hr, hl5, hk5⟩ := fin none C (hk4.same _ _ (by omega) hl3 rfl) (hk4.same _ _ (by omega) hk3 rfl)
        refine ⟨_, _, hr, .inl ⟨rfl, ⟨hI.put hi4 _ (.inr (.inr rfl)), hl5, hk5⟩, ?_, fun i hi' hne => ?_⟩⟩
        · have e1 := hg3.size
          have e2 : (A.putObj (k + 1) (.loop { rec .ready none with state := .busy })).heap.size = A.heap.size := by simp [World.putObj]
          have e3 : (C.putObj (k + 1) (.loop (rec (if (none : Option Code).isNone then .ready else .done) none))).heap.size = C.heap.size := by simp [World.putObj]
          have := hz4.1
          omega
        · have h1 : A.heap.size = (A.putObj (k + 1) (.loop { rec .ready none with state := .busy })).heap.size := by simp [World.putObj]
          rw [World.putObj_heap_other (by omega), hz4.2 i (by omega) hne, hg3.block i (by omega) (by simp), World.putObj_heap_other (by omega)]
      | ret =>
        obtain ⟨hk4, hi4⟩ := hp
        obtain ⟨hr, hl5, hk5⟩ := fin (some .ret) C (hk4.same _ _ (by omega) hl3 rfl) (hk4.same _ _ (by omega) hk3 rfl)
        exact ⟨_, _, hr, .inr ⟨rfl, .ret, (hIx _).put hi4 _ (.inr (.inr rfl)), hl5, hk5⟩⟩
      | exit id =>
        obtain ⟨hk4, hi4⟩ := hp
        obtain ⟨hr, hl5, hk5⟩ := fin (some (.exit id)) C (hk4.same _ _ (by omega) hl3 rfl) (hk4.same _ _ (by omega) hk3 rfl)
        exact ⟨_, _, hr, .inr ⟨rfl, .exit id, (hIx _).put hi4 _ (.inr (.inr rfl)), hl5, hk5⟩⟩
      | goto t =>
        obtain ⟨hk4, hi4⟩ := hp
        obtain ⟨hr, hl5, hk5⟩ := fin (some (.goto t)) C (hk4.same _ _ (by omega) hl3 rfl) (hk4.same _ _ (by omega) hk3 rfl)
        exact ⟨_, _, hr, .inr ⟨rfl, .goto t, (hIx _).put hi4 _ (.inr (.inr rfl)), hl5, hk5⟩⟩
      | panic ch => exact hp.elim
      | outgrown => exact hp.elim
    · rintro e W2 ⟨⟨v, rfl⟩, (⟨xs, hS, hi, hl, hk⟩ | ⟨pre, hSp, c, hi, hl, hk⟩)⟩
      · exact ⟨none, _, by have := run_endLoop (P := P) hl (by rw [hrec]; simp); rw [hrec] at this; exact this, hdone k xs _ (Nat.le_refl _) hS (hI.put hi _ (.inr (.inr rfl))) ((World.putObj_heap_other (by omega)).trans hk)⟩
      · exact ⟨some c, _, by have := run_endLoop (P := P) hl (by rw [hrec]; simp); rw [hrec] at this; exact this, hstop k c pre _ (Nat.le_refl _) hSp ((hIx c).put hi _ (.inr (.inr rfl))) ((World.putObj_heap_other (by omega)).trans hk)⟩
end Go
namespace Go.Dr
/-- a node and those above it, s steps. -/
def upGo : Nat → Nat → List Nat
  | 0, _ => []
  | s + 1, n => n :: upGo s (n / 2)
theorem upGo_length : ∀ s n, (upGo s n).length = s
  | 0, _ => rfl
  | s + 1, n => by rw [upGo, List.length_cons, upGo_length s]
theorem upGo_at : ∀ (s n k : Nat), k < s → (upGo s n)[k]? = some (n / 2 ^ k)
  | 0, _, k, h => by omega
  | s + 1, n, 0, _ => by simp [upGo]
  | s + 1, n, k + 1, h => by
    rw [upGo, List.getElem?_cons_succ, upGo_at s (n / 2) k (by omega), Nat.div_div_eq_div_mul, Nat.pow_succ, Nat.mul_comm 2]
theorem upGo_take {s n k : Nat} (h : k < s) : (upGo s n).take (k + 1) = (upGo s n).take k ++ [n / 2 ^ k] := by
  rw [List.take_add_one, upGo_at s n k h]; rfl
theorem up_big {s n k : Nat} (hn : n / 2 ^ s = 1) (h : k < s) : 1 < n / 2 ^ k := by
  have e : s = k + (s - k - 1 + 1) := by omega
  rw [e, Nat.pow_add, ← Nat.div_div_eq_div_mul, Nat.pow_succ, Nat.mul_comm, ← Nat.div_div_eq_div_mul] at hn
  have : 0 < n / 2 ^ k / 2 / 2 ^ (s - k - 1) := by omega
  have h2 : 2 ^ (s - k - 1) ≤ n / 2 ^ k / 2 := by
    rcases Nat.lt_or_ge (n / 2 ^ k / 2) (2 ^ (s - k - 1)) with h | h
    · rw [Nat.div_eq_of_lt h] at this; omega
    · exact h
  have := Nat.two_pow_pos (s - k - 1)
  omega
end Go.Dr
namespace Go.Proofs.YthhblcbnnmoojaaGreatDoor
open Go.RowKit Go.Mem Go.Shelf
attribute [local go_sem] Oper.semAt_some

set_option maxHeartbeats 400000 in
theorem pleaf_any (dev : Int) (_hd : I64 dev) (w : World) : Calls Tryz.prog 145 #[.int .i64 dev] w (fun e w' => e = .returned (.tuple #[.int .i64 (if 0 ≤ dev ∧ dev < 512 then 512 + dev else 0), .int .i64 (if 0 ≤ dev ∧ dev < 512 then 0 else 200)]) ∧ w' = w) := by
  obtain ⟨V1, hV1⟩ : ∃ V : Int, Hid ((if 0 ≤ dev ∧ dev < 512 then 512 + dev else 0) = V) := ⟨_, rfl⟩
  obtain ⟨V2, hV2⟩ : ∃ V : Int, Hid ((if 0 ≤ dev ∧ dev < 512 then 0 else 200) = V) := ⟨_, rfl⟩
  rw [hV1.out, hV2.out]
  go_enter Tryz.func145, Tryz.ntmps145
  by_cases h1 : 0 ≤ dev
  · by_cases h2 : dev < 512
    · have h1' : decide (dev < 0) = false := by simpa using h1
      have h2' : decide (512 ≤ dev) = false := by simpa using h2
      have hw : IntKind.i64.wrap (512 + dev) = 512 + dev := IntWalk.i64_in _ (by omega)
      go_wp2_with fail
      go_returns
      exact ⟨by rw [← hV1.out, ← hV2.out, if_pos ⟨h1, h2⟩, if_pos ⟨h1, h2⟩]; rfl, rfl⟩
    · have h1' : decide (dev < 0) = false := by simpa using h1
      have h2' : decide (512 ≤ dev) = true := by simpa using h2
      go_wp2_with fail
      go_returns
      exact ⟨by rw [← hV1.out, ← hV2.out, if_neg (fun h => by omega), if_neg (fun h => by omega)]; rfl, rfl⟩
  · have h1' : decide (dev < 0) = true := by simpa using h1
    go_wp2_with fail
    go_returns
    exact ⟨by rw [← hV1.out, ← hV2.out, if_neg (fun h => by omega), if_neg (fun h => by omega)]; rfl, rfl⟩

set_option maxHeartbeats 400000 in
theorem parent_any (n : Nat) (hn : n < 1024) (w : World) : Calls Tryz.prog 166 #[.int .i64 (n : Int)] w (fun e w' => e = .returned (.int .i64 ((n / 2 : Nat) : Int)) ∧ w' = w) := by
  go_enter Tryz.func166, Tryz.ntmps166
  go_wp2_with fail
  go_returns
  have e : (n : Int) / 2 = ((n / 2 : Nat) : Int) := by omega
  exact ⟨by rw [← e]; rfl, rfl⟩

theorem xor_sib : ∀ n : Fin 1024, bits BinOp.xor IntKind.i64 ((n.val : Nat) : Int) 1 = ((Go.Dr.sib n.val : Nat) : Int) := by decide +kernel
theorem and_one : ∀ n : Fin 1024, bits BinOp.and IntKind.i64 ((n.val : Nat) : Int) 1 = ((n.val % 2 : Nat) : Int) := by decide +kernel
set_option maxHeartbeats 400000 in
theorem sibling_any (n : Nat) (hn : n < 1024) (w : World) : Calls Tryz.prog 122 #[.int .i64 (n : Int)] w (fun e w' => e = .returned (.int .i64 ((Go.Dr.sib n : Nat) : Int)) ∧ w' = w) := by
  go_enter Tryz.func122, Tryz.ntmps122
  go_wp2_with fail
  go_returns
  have e := xor_sib ⟨n, hn⟩
  exact ⟨by rw [← e]; rfl, rfl⟩

abbrev encN (x : Nat) : Array Value := #[.int .i64 (x : Int)]

set_option maxRecDepth 20000 in
set_option maxHeartbeats 4000000 in
theorem upIter_in (l nb s n B z : Nat) (hn : n / 2 ^ s = 1) (hn2 : n < 1024) (J Jx : List Nat → World → Prop) (W : World)
    (hB : Blk W nb 147 [.int .i64 (n : Int)]) (hnb : nb < B) (hnz : nb ≠ z) (hJ : Deaf (fun r => r = nb) J)
    (hY : ∀ pre x A, J pre A → pre.length < s → x < 1024 → YieldAt Fence.wide 4 Tryz.prog l (encN x) A fun e C =>
      (e = .returned (.bool true) ∧ J (pre ++ [x]) C ∧ KpZ B z A C) ∨ (e = .returned (.bool false) ∧ Jx (pre ++ [x]) C))
    (h0 : J [] W) :
    CallsIn Fence.wide 5 Tryz.prog 165 #[.func (.yield l) #[] #[], .pointer (some ⟨nb, 0, none⟩)] W fun e C => (∃ v, e = .returned v) ∧
      ((∃ xs, xs = Go.Dr.upGo s n ∧ J xs C) ∨ (∃ pre, pre <+: Go.Dr.upGo s n ∧ Jx pre C)) := by
  have hpa := Lib.hid (fun (m : Nat) (hm : m < 1024) W => callsIn_wide (n := 4).2 (parent_any m hm W))
  refine callsIn_of_wp Tryz.func165 rfl trivial ?_ rfl
  simp only [Tryz.ntmps165, List.size_toArray, List.length_cons, List.length_nil, Nat.reduceAdd, Nat.reduceSub, Array.replicate_succ, Array.replicate_zero, List.push_toArray, List.append_toArray, List.nil_append, List.cons_append]
  gi_wp2_with fail
  gi_loopw [] (fun wr => ∃ k : Nat, k ≤ s ∧ J ((Go.Dr.upGo s n).take k) wr ∧ Hid (Blk wr nb 147 [.int .i64 ((n / 2 ^ k : Nat) : Int)])) (fun wr => (intOf ((wr.cell? ⟨nb, 0, none⟩).getD .nilIface)).toNat)
  case atStart => exact ⟨0, Nat.zero_le _, h0, by rw [Nat.pow_zero, Nat.div_one]; exact hB⟩
  case round =>
    obtain ⟨k, hk, hJs, hI⟩ := hrel
    obtain ⟨m, hm⟩ : ∃ m, Hid (n / 2 ^ k = m) := ⟨_, rfl⟩
    rw [hm.out] at hI
    have c0 := hI.out.at_ (i := 0) rfl
    by_cases hlt : k < s
    · have hbig := Go.Dr.up_big hn hlt
      have hm2 : m < 1024 := by rw [← hm.out]; exact Nat.lt_of_le_of_lt (Nat.div_le_self _ _) hn2
      rw [hm.out] at hbig
      have hY1 := hY _ m _ hJs (by rw [List.length_take, Go.Dr.upGo_length]; omega) hm2
      unfold encN at hY1
      have htk : (Go.Dr.upGo s n).take k ++ [m] = (Go.Dr.upGo s n).take (k + 1) := by rw [Go.Dr.upGo_take hlt, hm.out]
      rw [htk] at hY1
      obtain ⟨fn, tmps, assign, body, hy, hR⟩ := hY1
      have hR' := Lib.hid hR
      have hg1 : decide ((1 : Int) < (m : Int)) = true := decide_eq_true (by omega)
      clear hR hJs
      gi_wp2_with fail
      refine hR'.out.mono ?_
      rintro e2 W3 (⟨rfl, hJ3, hk3⟩ | ⟨rfl, hJx3⟩)
      · have hB3 : Blk W3 nb 147 [.int .i64 (m : Int)] := (hk3.2 nb hnb hnz).trans hI.out
        have c3 := hB3.at_ (i := 0) (x := .int .i64 (m : Int)) rfl
        have f3 := hB3.frozen 0
        have hB4 := Lib.hid (hB3.set 0 (.int .i64 ((m / 2 : Nat) : Int)))
        have hJ4 : J ((Go.Dr.upGo s n).take (k + 1)) (W3.setCell ⟨nb, 0, none⟩ (.int .i64 ((m / 2 : Nat) : Int))) := hJ _ _ _ _ hJ3 (Lib.grownBy_setCell W3 nb 0 _) (fun r e => by cases e; rfl)
        have hpc := Lib.hid (hpa.out m hm2 W3)
        have hmd : Hid (n / 2 ^ (k + 1) = m / 2) := by show _ = _; rw [Nat.pow_succ, ← Nat.div_div_eq_div_mul, hm.out]
        have hdec : Hid ((intOf (((W3.setCell ⟨nb, 0, none⟩ (.int .i64 ((m / 2 : Nat) : Int))).cell? ⟨nb, 0, none⟩).getD .nilIface)).toNat < (intOf ((wr.cell? ⟨nb, 0, none⟩).getD .nilIface)).toNat) := by
          show _ < _
          rw [hB4.out.at_ (i := 0) rfl, c0]
          show (((m / 2 : Nat) : Int)).toNat < ((m : Int)).toNat
          omega
        obtain ⟨m2, hm2e⟩ : ∃ m2, Hid (m / 2 = m2) := ⟨_, rfl⟩
        rw [hm2e.out] at hB4 hJ4 hpc hmd hdec
        clear hR' hY hJ h0 hB hpa hJ3
        gi_wp2_with fail
        refine ⟨trivial, hpc.out.mono ?_⟩
        rintro e W5 ⟨rfl, rfl⟩
        gi_wp2_with fail
        refine ⟨⟨k + 1, by omega, hJ4, ?_⟩, hdec.out⟩
        rw [hmd.out]; exact hB4
      · gi_wp2_with fail
        refine bodyPost_end (results_none rfl _ _ _) rfl ?_
        exact ⟨⟨_, rfl⟩, .inr ⟨_, List.take_prefix _ _, hJx3⟩⟩
    · obtain rfl : k = s := by omega
      have hm1 : m = 1 := by rw [← hm.out]; exact hn
      subst hm1
      rw [show ((1 : Nat) : Int) = 1 from rfl] at c0
      have hJ4 : J (Go.Dr.upGo k n) wr := by rw [List.take_of_length_le (by rw [Go.Dr.upGo_length]; omega)] at hJs; exact hJs
      gi_wp2_with fail
      refine ⟨fun f h => (by cases h), ?_⟩
      go_at_K
      gi_wp2_with fail
      refine bodyPost_end (results_none rfl _ _ _) rfl ?_
      exact ⟨⟨_, rfl⟩, .inl ⟨_, rfl, hJ4⟩⟩
end Go.Proofs.YthhblcbnnmoojaaGreatDoor
namespace Go.Dr
theorem coGo_up : ∀ s n, coGo s n = (upGo s n).map sib
  | 0, _ => rfl
  | s + 1, n => by rw [coGo, upGo, List.map_cons, coGo_up s]
theorem dev_root {dev : Int} (h : 0 ≤ dev ∧ dev < 512) : (512 + dev.toNat) / 2 ^ 9 = 1 := by omega
end Go.Dr
namespace Go
theorem wpIn_append_run {F : Fence} {n : Nat} {P : Program} {op : Oper} {a : Act} {w : World} {K : Act → World → Prop} {Q : Exit → Act → World → Prop} {x y : Operand} {t t' : TypeId} (ho : op.op = .call { callee := .builtin .append, args := #[x, y], argTypes := #[t, t'] }) (v u : Value) (_hF : F.round = F.round) (hx : a.eval x = v) (hy : a.eval y = u) {v' : Value} {w' : World}
    (hr : (Builtin.append_ #[t, t'] op.type #[v, u]).run P w = .ok v' w') (h : K (a.put op.dst v') w') : op.wpIn F n P a w K Q := by
  unfold Oper.wpIn
  refine ⟨?_, ?_⟩
  · simp [Oper.about, ho, resolve, Target.leads, Sem.run_pure]
  · rw [Oper.semAt_plain F _ _ (by rw [ho]; intro c hc'; cases hc')]
    simp [execOp, ho, resolve, invoke, builtin, hx, hy, hr, Result.andThen]
    exact h
end Go
namespace Go.Proofs.YthhblcbnnmoojaaGreatDoor
open Go.RowKit Go.Mem Go.Shelf
attribute [local go_sem] Oper.semAt_some

def nv (l : List Nat) : List Value := l.map fun (x : Nat) => .int .i64 (x : Int)
theorem nv_append (a b : List Nat) : nv (a ++ b) = nv a ++ nv b := by simp [nv]
theorem nv_one (l : List Nat) : ∀ u ∈ nv l, u.oneCell' = true := by
  intro u hu
  obtain ⟨x, _, rfl⟩ := List.mem_map.1 hu
  rfl
theorem up_any (n : Nat) (w : World) : Calls Tryz.prog 146 #[.int .i64 (n : Int)] w (fun e w' => e = .returned (.func (.func 165) #[] #[.pointer (some ⟨w.heap.size, 0, none⟩)]) ∧ w' = w.alloc (.cells #[.int .i64 (n : Int)] 147)) := by
  go_enter Tryz.func146, Tryz.ntmps146
  go_wp2_with fail
  go_returns
  exact ⟨rfl, rfl⟩
def CoPost (dev : Int) (w : World) (e : Ending) (w' : World) : Prop :=
  (0 ≤ dev ∧ dev < 512 ∧ ∃ a c, e = .returned (.tuple #[.slice a 9 c, .int .i64 0]) ∧ Sl.Reads w' a 9 c 1 (nv (Go.Dr.coD dev)) ∧ Below w.heap.size w w') ∨
  (¬ (0 ≤ dev ∧ dev < 512) ∧ e = .returned (.tuple #[.slice none 0 0, .int .i64 200]) ∧ Below w.heap.size w w')

theorem info3 : (Tryz.prog.info? 3).map (fun i => (i.zero, i.size, i.bytes)) = some (some (.int .i64 0), 1, 8) := by kernel_rfl
/-- what the loop keeps: the box of the slice, which owns what was gathered. -/
def AlI (wL : World) (tb : Nat) (pre : List Nat) (W : World) : Prop :=
  (∃ v, Blk W (tb + 1) 117 [v] ∧ W.ownsRow (wL.heap.size + 2) 3 1 v pre.length (nv (pre.map Go.Dr.sib))) ∧ Blk W tb 145 [.func (.func 122) #[] #[]] ∧ Below tb wL W
theorem alI_deaf (wL : World) (tb : Nat) (hs : wL.heap.size = tb + 3) : Deaf (LoopR (tb + 2) wL.heap.size) (AlI wL tb) := by
  rintro s A C row ⟨⟨v, h1, h2⟩, h3, h4⟩ hg hr
  have hr' : ∀ r, row = some r → r = tb + 2 ∨ r = tb + 3 ∨ r = tb + 4 := fun r e => by have := hr r e; unfold LoopR at this; omega
  refine ⟨⟨v, h1.grown hg (fun e => by have := hr' _ e.symm; omega), h2.kept hg ?_⟩, h3.grown hg (fun e => by have := hr' _ e.symm; omega), h4.grown hg (by have := h4.size; omega) (fun r e => by have := hr' r e; omega)⟩
  cases hv : v.ownBlock with
  | none => exact .inl rfl
  | some g =>
    refine .inr ?_
    have := World.ownsRow.lt h2 g hv
    intro e
    have := hr' g e.symm
    omega

set_option maxRecDepth 20000 in
set_option maxHeartbeats 4000000 in
theorem along_any (dev : Int) (hd : I64 dev) (w : World) :
    Calls Tryz.prog 121 #[.int .i64 dev, .func (.func 122) #[] #[]] w (CoPost dev w) := by
  obtain ⟨tb, htb⟩ : ∃ tb, Hid (w.heap.size = tb) := ⟨_, rfl⟩
  have hlf := Lib.hid (fun W => callsIn_wide (n := 5).2 (pleaf_any dev hd W))
  by_cases hin : 0 ≤ dev ∧ dev < 512
  · rw [if_pos hin, if_pos hin] at hlf
    obtain ⟨n, hn⟩ : ∃ n : Nat, Hid (512 + dev = (n : Int) ∧ n = 512 + dev.toNat) := ⟨512 + dev.toNat, by omega, rfl⟩
    rw [hn.out.1] at hlf
    refine callsIn_wide (n := 6).1 ?_
    refine callsIn_of_wp_marks Tryz.func121 rfl trivial ?_ rfl
    simp only [Tryz.ntmps121, List.size_toArray, List.length_cons, List.length_nil, Nat.reduceAdd, Nat.reduceSub, Array.replicate_succ, Array.replicate_zero, List.push_toArray, List.append_toArray, List.nil_append, List.cons_append]
    gi_wp2_with fail
    refine ⟨trivial, (hlf.out _).mono ?_⟩
    rintro e w' ⟨rfl, rfl⟩
    gi_wp2_with fail
    refine ⟨trivial, (callsIn_wide.2 (up_any n _)).mono ?_⟩
    rintro e w' ⟨rfl, rfl⟩
    gi_wp2_with fail
    rw [htb.out]
    generalize hwL : ((w.alloc _).alloc _).alloc _ = wL
    have hs : wL.heap.size = tb + 3 := by rw [← hwL, ← htb.out]; simp
    have hbL : Below w.heap.size w wL := by rw [← hwL]; exact (((Below.refl _ w).alloc (Nat.le_refl _) _).alloc (by simp) _).alloc (by simp; omega) _
    have hBF : Blk wL tb 145 [.func (.func 122) #[] #[]] := by rw [← hwL, ← htb.out]; exact ((Blk.new w _ [.func (.func 122) #[] #[]]).alloc _).alloc _
    have hBS : Blk wL (tb + 1) 117 [.slice none 0 0] := by
      rw [← hwL, ← htb.out]
      have := (Blk.new (w.alloc (.cells #[.func (.func 122) #[] #[]] 145)) 117 [.slice none 0 0]).alloc (.cells #[.int .i64 (n : Int)] 147)
      rwa [World.size_alloc] at this
    have hBN : Blk wL (tb + 2) 147 [.int .i64 (n : Int)] := by
      rw [← hwL, ← htb.out]
      have := Blk.new ((w.alloc (.cells #[.func (.func 122) #[] #[]] 145)).alloc (.cells #[.slice none 0 0] 117)) 147 [.int .i64 (n : Int)]
      rwa [World.size_alloc, World.size_alloc] at this
    clear hwL
    have hnr : n / 2 ^ 9 = 1 := by rw [hn.out.2]; exact Go.Dr.dev_root hin
    have hn2 : n < 1024 := by have := hn.out.1; omega
    have hseq : SeqOwn (tb + 2) (tb + 1) Fence.wide 5 Tryz.prog 165 #[.pointer (some ⟨tb + 1 + 1, 0, none⟩)] encN (fun xs => xs = Go.Dr.upGo 9 n) (fun pre => pre <+: Go.Dr.upGo 9 n) (fun x => x < 1024) 9 wL :=
      fun l J Jx W hW hl0 hl1 hJ hY h0 => upIter_in l (tb + 2) 9 n wL.heap.size (tb + 1) hnr hn2 J Jx W (hBN.below hW hBN.lt) (by omega) (by omega) hJ hY h0
    refine wpIn_range_own (q := tb + 2) (z := tb + 1) (by omega) rfl (by omega) (gf := 165) (lb := #[.pointer (some ⟨tb + 1 + 1, 0, none⟩)]) rfl trivial (enters_of Tryz.func165 (by kernel_rfl) rfl)
      hseq (fun _ => rfl) (AlI wL tb) (fun _ _ _ => False) (alI_deaf wL tb hs) (fun c _ _ _ _ h _ _ => h) ⟨⟨_, hBS, World.ownsRow_nil _ _ _ _⟩, hBF, Below.refl _ _⟩
      (fun x a' _ => a' = { tmps := #[.int .i64 dev, .func (.func 122) #[] #[], undef, .pointer (some ⟨tb, 0, none⟩), .pointer (some ⟨tb + 1, 0, none⟩), .int .i64 0, .int .i64 (n : Int), .int .i64 (x : Int),
        .tuple #[.int .i64 (n : Int), .int .i64 0], .int .i64 dev, .tuple #[.int .i64 (n : Int), .int .i64 0], .int .i64 (n : Int), .int .i64 0, .int .i64 0, .bool false, undef, .int .i64 (n : Int), .func (.func 165) #[] #[.pointer (some ⟨tb + 1 + 1, 0, none⟩)], .int .i64 (x : Int), undef, undef, undef, undef, undef, undef, undef], defers := [] })
      (fun x a' A C l rc hx _ _ => hx) ?assign ?body ?done ?stop
    case assign =>
      rintro l pre x A K hI _ hK
      gi_wp2_with fail
      exact hK _ _ (World.grownBy.refl A none) rfl
    case body =>
      rintro l pre x a' A hA ⟨⟨v, hB, hown⟩, hF, hb⟩ rfl hlen hx
      obtain ⟨i0, hi, hz0, hz1, hz2⟩ := info_parts info3
      have hsi := Lib.hid (fun W => sibling_any x hx W)
      obtain ⟨y, hy⟩ : ∃ y, Hid (Go.Dr.sib x = y) := ⟨_, rfl⟩
      rw [hy.out] at hsi
      have hAd : A.drew.heap.size = A.heap.size := rfl
      obtain ⟨W1, hW1⟩ : ∃ W1, Hid (A.drew.alloc (.cells #[.int .i64 (y : Int)] 3) = W1) := ⟨_, rfl⟩
      have hown1 : W1.ownsRow (wL.heap.size + 2) 3 1 v pre.length (nv (pre.map Go.Dr.sib)) := by rw [← hW1.out]; exact World.ownsRow.kept (row := none) hown (grown_alloc (grown_drewN (World.grownBy.refl A none) 1) _) (by cases v.ownBlock with | none => exact .inl rfl | some _ => exact .inr (fun e => by cases e))
      have hB1 : Blk W1 A.heap.size 3 (nv [y]) := by rw [← hW1.out]; exact Blk.new A.drew 3 [.int .i64 (y : Int)]
      have hS1 : Blk W1 (tb + 1) 117 [v] := by rw [← hW1.out]; exact (hB.drewN 1).alloc _
      have hA2 : A.drew.heap.size = A.heap.size := rfl
      obtain ⟨v', W2, hr, hown2, hgr, _⟩ := run_append_own (P := Tryz.prog) W1 (wL.heap.size + 2) 117 117 3 i0 _ 1 8 Tryz.underlying117 hi hz0 hz1 hz2 rfl (by decide) v pre.length _ hown1 ⟨A.heap.size, 0, none⟩ 1 1 (nv [y]) rfl (fun j u hj => by rw [Addr.add_lit, Nat.zero_add]; exact hB1.at_ hj) (nv_one _) (by unfold maxLen; omega) (by omega) (by rw [← hW1.out]; simp; omega)
      obtain ⟨g, cap, rfl⟩ := ownsRow_succ hown2
      have hS2 : Blk W2 (tb + 1) 117 [v] := hS1.grown hgr (fun e => by have := (World.ownsRow.lt hown1 _ e.symm).1; omega)
      have c4 := hB.at_ (i := 0) (x := v) rfl
      have c3 := hF.at_ (i := 0) (x := .func (.func 122) #[] #[]) rfl
      have f4 := hS2.frozen 0
      have d4 := hS2.at_ (i := 0) (x := v) rfl
      have c5 : (A.alloc (.cells #[.int .i64 (y : Int)] 3)).cell? ⟨tb + 1, 0, none⟩ = some v := (hB.alloc _).at_ (i := 0) rfl
      rw [← hW1.out] at hr
      have hr : (Builtin.append_ #[117, 117] 117 #[v, .slice (some ⟨A.heap.size, 0, none⟩) 1 1]).run Tryz.prog (A.alloc (.cells #[.int .i64 (y : Int)] 3)).drew = .ok (.slice (some ⟨g, 0, none⟩) (pre.length + 1) cap) W2 := hr
      have hg1 : A.grownBy W1 none := by rw [← hW1.out]; exact grown_alloc (grown_drewN (World.grownBy.refl A none) 1) _
      have hfin : Hid (roundLeft (tb + 1) wL.heap.size (AlI wL tb) (fun _ _ _ => False) (pre ++ [x]) A .normal { tmps := #[], defers := [] } (W2.setCell ⟨tb + 1, 0, none⟩ (.slice (some ⟨g, 0, none⟩) (pre.length + 1) cap))) := by
        have hg2 : A.grownBy W2 v.ownBlock := ⟨hgr.os.trans hg1.os, hgr.tape.trans hg1.tape, hgr.output.trans hg1.output, Nat.le_trans hg1.size hgr.size, fun i hi2 hne => (hgr.block i (Nat.lt_of_lt_of_le hi2 hg1.size) hne).trans (hg1.block i hi2 (by simp))⟩
        have hvb : ∀ k, v.ownBlock = some k → wL.heap.size + 2 ≤ k := fun k e => (World.ownsRow.lt hown k e).1
        have hgb : wL.heap.size + 2 ≤ g := (World.ownsRow.lt hown2 g (by rfl)).1
        have hsz : ∀ u, (W2.setCell ⟨tb + 1, 0, none⟩ u).heap.size = W2.heap.size := fun u => by simp [World.setCell]
        refine ⟨⟨by rw [hsz]; exact hg2.size, fun k o hk hko hoc => ?_⟩, ⟨by rw [hsz]; exact hg2.size, fun i hi2 hne => ?_⟩, ⟨_, hS2.set 0 _, ?_⟩, ?_, ?_⟩
        · rw [Below.heap_setCell _ _ _ _ (by show k ≠ tb + 1; omega)]
          by_cases e : some k = v.ownBlock
          · obtain ⟨cs, fz, hcs⟩ : ∃ cs fz, A.heap[k]? = some (.cells cs 3 fz) := by
              rcases hown.2 with ⟨rfl, _⟩ | ⟨gg, cp, cur, rfl, _, hgg, _⟩
              · cases e
              · cases e; exact ⟨_, _, hgg⟩
            rw [hcs] at hko
            cases hko
            cases hoc
          · rw [hg2.block k (Array.getElem?_eq_some_iff.1 hko).1 e]; exact hko
        · rw [Below.heap_setCell _ _ _ _ (by show i ≠ tb + 1; exact hne), hg2.block i (by omega) (fun e => by have := hvb i e.symm; omega)]
        · rw [List.map_append, nv_append, List.length_append]
          have := hown2.kept (row := some (tb + 1)) (Lib.grownBy_setCell W2 (tb + 1) 0 (.slice (some ⟨g, 0, none⟩) (pre.length + 1) cap)) (.inr (by intro e; have e2 : g = tb + 1 := Option.some.inj e; omega))
          rw [← hy.out] at this
          exact this
        · exact ((hF.grown hg2 (fun e => by have := hvb _ e.symm; omega)).far (p := ⟨tb + 1, 0, none⟩) (by simp) _)
        · exact (hb.grown hg2 (by have := hb.size; omega) (fun k e => by have := hvb k e; omega)).setCell (p := ⟨tb + 1, 0, none⟩) (by show tb ≤ tb + 1; omega) _
      clear hown hB hF hb hown1 hB1 hS1 hS2 hown2 hgr hg1 hseq
      gi_wp2_with fail
      refine share (G := ?Gs01234) ?hs01234 ?ks01234
      case' hs01234 => intro Ks01234
      case' hs01234 =>
        refine share (G := ?Gs0123) ?hs0123 ?ks0123
      case' hs0123 => intro Ks0123
      case' hs0123 =>
        refine share (G := ?Gs012) ?hs012 ?ks012
      case' hs012 => intro Ks012
      case' hs012 =>
        refine share (G := ?Gs01) ?hs01 ?ks01
      case' hs01 => intro Ks01
      case' hs01 =>
        refine share (G := ?Gs02) ?hs02 ?ks02
      case' hs02 => intro Ks02
      case' hs02 =>
        refine share (G := ?Gs12) ?hs12 ?ks12
      case' hs12 => intro Ks12
      case hs12 =>
        refine wpIn_region_any (by kernel_rfl) ?_
        change wpAnyIn _ _ _ _ _ _ _ _ _ (World.drew _)
        refine wpAnyIn_ready (rs := [0, 1, 2]) (by kernel_rfl) (by simp) ?_
        refine AllReadyIn.cons rfl (fun K hK => ?_) (AllReadyIn.cons rfl (fun K hK => ?_) (AllReadyIn.cons rfl (fun K hK => ?_) AllReadyIn.nil))
        case refine_1 =>
          rw [if_pos (by rfl)]
          go_simp
          refine hK _ _ ?_
          clear hK K
          try simp only [Act.put, List.setIfInBounds_toArray, List.set_cons_zero, List.set_cons_succ]
          refine wpAnyIn_ready (rs := [1, 2]) (by kernel_rfl) (by simp) ?_
          refine AllReadyIn.cons rfl (fun K hK => ?_) (AllReadyIn.cons rfl (fun K hK => ?_) AllReadyIn.nil)
          case refine_1 =>
            rw [if_pos (by rfl)]
            go_simp
            refine hK _ _ ?_
            clear hK K
            try simp only [Act.put, List.setIfInBounds_toArray, List.set_cons_zero, List.set_cons_succ]
            exact Ks01
          case refine_2 =>
            rw [if_pos (by rfl)]
            go_simp
            refine hK _ _ ?_
            clear hK K
            try simp only [Act.put, List.setIfInBounds_toArray, List.set_cons_zero, List.set_cons_succ]
            exact Ks02
        case refine_2 =>
          rw [if_pos (by rfl)]
          go_simp
          refine hK _ _ ?_
          clear hK K
          try simp only [Act.put, List.setIfInBounds_toArray, List.set_cons_zero, List.set_cons_succ]
          refine wpAnyIn_ready (rs := [0, 2]) (by kernel_rfl) (by simp) ?_
          refine AllReadyIn.cons rfl (fun K hK => ?_) (AllReadyIn.cons rfl (fun K hK => ?_) AllReadyIn.nil)
          case refine_1 =>
            rw [if_pos (by rfl)]
            go_simp
            refine hK _ _ ?_
            clear hK K
            try simp only [Act.put, List.setIfInBounds_toArray, List.set_cons_zero, List.set_cons_succ]
            exact Ks01
          case refine_2 =>
            rw [if_pos (by rfl)]
            go_simp
            refine hK _ _ ?_
            clear hK K
            try simp only [Act.put, List.setIfInBounds_toArray, List.set_cons_zero, List.set_cons_succ]
            exact Ks12
        case refine_3 =>
          rw [if_pos (by rfl)]
          go_simp
          refine hK _ _ ?_
          clear hK K
          try simp only [Act.put, List.setIfInBounds_toArray, List.set_cons_zero, List.set_cons_succ]
          refine wpAnyIn_ready (rs := [0, 1]) (by kernel_rfl) (by simp) ?_
          refine AllReadyIn.cons rfl (fun K hK => ?_) (AllReadyIn.cons rfl (fun K hK => ?_) AllReadyIn.nil)
          case refine_1 =>
            rw [if_pos (by rfl)]
            go_simp
            refine hK _ _ ?_
            clear hK K
            try simp only [Act.put, List.setIfInBounds_toArray, List.set_cons_zero, List.set_cons_succ]
            exact Ks02
          case refine_2 =>
            rw [if_pos (by rfl)]
            go_simp
            refine hK _ _ ?_
            clear hK K
            try simp only [Act.put, List.setIfInBounds_toArray, List.set_cons_zero, List.set_cons_succ]
            exact Ks12
      case ks12 =>
        refine wpAnyIn_ready (rs := [0, 3]) (by kernel_rfl) (by simp) ?_
        refine AllReadyIn.cons rfl (fun K hK => ?_) (AllReadyIn.cons rfl (fun K hK => ?_) AllReadyIn.nil)
        case refine_1 =>
          rw [if_pos (by rfl)]
          go_simp
          refine hK _ _ ?_
          clear hK K
          try simp only [Act.put, List.setIfInBounds_toArray, List.set_cons_zero, List.set_cons_succ]
          exact Ks012
        case refine_2 =>
          rw [if_pos (by rfl)]
          go_simp
          refine ⟨trivial, (CallsIn.inRound l (callsIn_wide.2 (hsi.out _))).mono ?_⟩
          rintro e W ⟨rfl, rfl⟩
          refine hK _ _ ?_
          clear hK K
          try simp only [Act.put, List.setIfInBounds_toArray, List.set_cons_zero, List.set_cons_succ]
          refine wpAnyIn_ready (rs := [0, 4]) (by kernel_rfl) (by simp) ?_
          refine AllReadyIn.cons rfl (fun K hK => ?_) (AllReadyIn.cons rfl (fun K hK => ?_) AllReadyIn.nil)
          case refine_1 =>
            rw [if_pos (by rfl)]
            go_simp
            refine hK _ _ ?_
            clear hK K
            try simp only [Act.put, List.setIfInBounds_toArray, List.set_cons_zero, List.set_cons_succ]
            exact Ks0123
          case refine_2 =>
            rw [if_pos (by rfl)]
            go_simp
            refine hK _ _ ?_
            clear hK K
            try simp only [Act.put, List.setIfInBounds_toArray, List.set_cons_zero, List.set_cons_succ]
            refine wpAnyIn_ready (rs := [0]) (by kernel_rfl) (by simp) ?_
            refine AllReadyIn.cons rfl (fun K hK => ?_) AllReadyIn.nil
            rw [if_pos (by rfl)]
            go_simp
            refine hK _ _ ?_
            clear hK K
            try simp only [Act.put, List.setIfInBounds_toArray, List.set_cons_zero, List.set_cons_succ]
            exact Ks01234
      case ks02 =>
        refine wpAnyIn_ready (rs := [1]) (by kernel_rfl) (by simp) ?_
        refine AllReadyIn.cons rfl (fun K hK => ?_) AllReadyIn.nil
        rw [if_pos (by rfl)]
        go_simp
        refine hK _ _ ?_
        clear hK K
        try simp only [Act.put, List.setIfInBounds_toArray, List.set_cons_zero, List.set_cons_succ]
        exact Ks012
      case ks01 =>
        refine wpAnyIn_ready (rs := [2]) (by kernel_rfl) (by simp) ?_
        refine AllReadyIn.cons rfl (fun K hK => ?_) AllReadyIn.nil
        rw [if_pos (by rfl)]
        go_simp
        refine hK _ _ ?_
        clear hK K
        try simp only [Act.put, List.setIfInBounds_toArray, List.set_cons_zero, List.set_cons_succ]
        exact Ks012
      case ks012 =>
        refine wpAnyIn_ready (rs := [3]) (by kernel_rfl) (by simp) ?_
        refine AllReadyIn.cons rfl (fun K hK => ?_) AllReadyIn.nil
        rw [if_pos (by rfl)]
        go_simp
        refine ⟨trivial, (CallsIn.inRound l (callsIn_wide.2 (hsi.out _))).mono ?_⟩
        rintro e W ⟨rfl, rfl⟩
        refine hK _ _ ?_
        clear hK K
        try simp only [Act.put, List.setIfInBounds_toArray, List.set_cons_zero, List.set_cons_succ]
        exact Ks0123
      case ks0123 =>
        refine wpAnyIn_ready (rs := [4]) (by kernel_rfl) (by simp) ?_
        refine AllReadyIn.cons rfl (fun K hK => ?_) AllReadyIn.nil
        rw [if_pos (by rfl)]
        go_simp
        refine hK _ _ ?_
        clear hK K
        try simp only [Act.put, List.setIfInBounds_toArray, List.set_cons_zero, List.set_cons_succ]
        exact Ks01234
      case ks01234 =>
        refine wpAnyIn_ready (rs := [5]) (by kernel_rfl) (by simp) ?_
        refine AllReadyIn.cons rfl (fun K hK => ?_) AllReadyIn.nil
        rw [if_pos (by rfl)]
        refine wpIn_append_run (by rfl) _ _ (by rfl) rfl rfl hr ?_
        refine hK _ _ ?_
        clear hK K
        try simp only [Act.put, List.setIfInBounds_toArray]
        refine wpAnyIn_ready (rs := [6]) (by kernel_rfl) (by simp) ?_
        refine AllReadyIn.cons rfl (fun K hK => ?_) AllReadyIn.nil
        rw [if_pos (by rfl)]
        go_simp
        refine hK _ _ ?_
        clear hK K
        try simp only [Act.put, List.setIfInBounds_toArray, List.set_cons_zero, List.set_cons_succ]
        refine wpAnyIn_done (by kernel_rfl) ?_ _
        gi_wp2_with fail
        exact hfin.out
    case done =>
      rintro D xs W hD rfl ⟨⟨v, hB, hown⟩, hF, hb⟩ hK
      have c4 := hB.at_ (i := 0) (x := v) rfl
      have f4 := hB.frozen 0
      rw [Go.Dr.upGo_length] at hown
      obtain ⟨g, cap, rfl⟩ := ownsRow_succ hown
      have hS := hB.set 0 (.slice (some ⟨g, 0, none⟩) 9 cap)
      have c5 := hS.at_ (i := 0) (x := .slice (some ⟨g, 0, none⟩) 9 cap) rfl
      have hgb : wL.heap.size + 2 ≤ g := (World.ownsRow.lt hown g (by rfl)).1
      have hown2 := hown.kept (row := some (tb + 1)) (Lib.grownBy_setCell W (tb + 1) 0 (.slice (some ⟨g, 0, none⟩) 9 cap)) (.inr (by intro e; have e2 : g = tb + 1 := Option.some.inj e; omega))
      have hb2 : Below tb wL (W.setCell ⟨tb + 1, 0, none⟩ (.slice (some ⟨g, 0, none⟩) 9 cap)) := hb.setCell (p := ⟨tb + 1, 0, none⟩) (by show tb ≤ tb + 1; omega) _
      generalize hV : W.setCell ⟨tb + 1, 0, none⟩ (.slice (some ⟨g, 0, none⟩) 9 cap) = V at *
      have hK' : V.heap[D]? = some (.deferred (some [])) := by rw [← hV, Below.heap_setCell _ _ _ _ (by show D ≠ tb + 1; omega)]; exact hK
      have hgp := grownBy_putObj' V D (.deferred none)
      have y4 := (hS.grown hgp (fun e => by cases e; omega)).at_ (i := 0) (x := .slice (some ⟨g, 0, none⟩) 9 cap) rfl
      have hgD : g ≠ D := fun e => by
        subst e
        obtain ⟨g2, cap2, rest, hv, _, _, hh, _⟩ := Sl.owns_row hown2 (by omega)
        have e2 : g = g2 := by simp at hv; exact hv.1
        subst e2
        rw [hK'] at hh
        cases hh
      have hown3 := hown2.kept hgp (.inr (by intro e; have e2 : g = D := Option.some.inj e; exact hgD e2))
      have hbf : Below w.heap.size w (V.putObj D (.deferred none)) := (hbL.trans (hb2.mono (by rw [htb.out]; exact Nat.le_refl _))).grown hgp (hbL.trans (hb2.mono (by rw [htb.out]; exact Nat.le_refl _))).size (fun k e => by cases e; have := htb.out; omega)
      obtain ⟨a2, c2, hv2, hR, _⟩ := Sl.of_owns hown3
      cases hv2
      have hco : Go.Dr.coD dev = (Go.Dr.upGo 9 n).map Go.Dr.sib := by unfold Go.Dr.coD; rw [← hn.out.2, Go.Dr.coGo_up]
      have hpost : CoPost dev w (.returned (.tuple #[.slice (some ⟨g, 0, none⟩) 9 cap, .int .i64 0])) (V.putObj D (.deferred none)) := .inl ⟨hin.1, hin.2, _, _, rfl, by rw [hco]; exact hR, hbf⟩
      clear hown hown2 hown3 hR hB hF hb hbf hseq hS
      gi_wp2_with fail
      refine ⟨by simp, .inl ⟨_, _, rfl, run_takeDeferred hK', .tuple #[.slice (some ⟨g, 0, none⟩) 9 cap, .int .i64 0], ?_, hpost⟩⟩
      simp [results, Tryz.f121, go_sem, y4]
    case stop =>
      rintro D c pre W hD hp hf
      exact hf.elim
  · rw [if_neg hin, if_neg hin] at hlf
    have hlf2 := Lib.hid (fun W => callsIn_wide.1 (hlf.out W))
    go_enter Tryz.func121, Tryz.ntmps121
    go_wp2_with fail
    refine (hlf2.out _).mono ?_
    rintro e w' ⟨rfl, rfl⟩
    rw [htb.out]
    generalize hwL : (w.alloc _).alloc _ = wL
    have hbL : Below w.heap.size w wL := by rw [← hwL]; exact ((Below.refl _ w).alloc (Nat.le_refl _) _).alloc (by simp) _
    have hBS : Blk wL (tb + 1) 117 [.slice none 0 0] := by
      rw [← hwL, ← htb.out]
      have := Blk.new (w.alloc (.cells #[.func (.func 122) #[] #[]] 145)) 117 [.slice none 0 0]
      rwa [World.size_alloc] at this
    have c4 := hBS.at_ (i := 0) (x := .slice none 0 0) rfl
    have f4 := hBS.frozen 0
    have c5 := (hBS.set 0 (.slice none 0 0)).at_ (i := 0) (x := .slice none 0 0) rfl
    have hpost : Hid (CoPost dev w (.returned (.tuple #[.slice none 0 0, .int .i64 200])) (wL.setCell ⟨tb + 1, 0, none⟩ (.slice none 0 0))) := .inr ⟨hin, rfl, hbL.setCell (p := ⟨tb + 1, 0, none⟩) (by have := htb.out; show _ ≤ tb + 1; omega) _⟩
    clear hwL hBS hbL
    go_wp2_with fail
    refine bodyPost_ret (v := .tuple #[.slice none 0 0, .int .i64 200]) ?_ rfl hpost.out
    simp [results, Tryz.f121, go_sem, c5]

set_option maxHeartbeats 400000 in
theorem copath_any (dev : Int) (hd : I64 dev) (w : World) : Calls Tryz.prog 82 #[.int .i64 dev] w (CoPost dev w) := by
  have hc := Lib.hid (along_any dev hd w)
  go_enter Tryz.func82, Tryz.ntmps82
  go_wp2_with fail
  refine hc.out.mono ?_
  rintro e w1 (⟨h1, h2, a, c, rfl, hR, hb⟩ | ⟨h1, rfl, hb⟩)
  · have hp : Hid (CoPost dev w (.returned (.tuple #[.slice a 9 c, .int .i64 0])) w1) := .inl ⟨h1, h2, a, c, rfl, hR, hb⟩
    clear hR hc
    go_wp2_with fail
    go_ret2
    exact hp.out
  · have hp : Hid (CoPost dev w (.returned (.tuple #[.slice none 0 0, .int .i64 200])) w1) := .inr ⟨h1, rfl, hb⟩
    clear hc
    go_wp2_with fail
    go_ret2
    exact hp.out
end Go.Proofs.YthhblcbnnmoojaaGreatDoor
namespace Go.Dr
theorem path_at (l : List Lst) : ∀ (s j n k : Nat), k < s → (pathGo l s j n)[k]? = some (nodeD l (j + k) (sib (n / 2 ^ k)))
  | 0, _, _, k, h => by omega
  | s + 1, j, n, 0, _ => by simp [pathGo]
  | s + 1, j, n, k + 1, h => by
    rw [pathGo, List.getElem?_cons_succ, path_at l s (j + 1) (n / 2) k (by omega), Nat.div_div_eq_div_mul, Nat.pow_succ, Nat.mul_comm 2, show j + 1 + k = j + (k + 1) by omega]
theorem co_at : ∀ (s n k : Nat), k < s → (coGo s n)[k]? = some (sib (n / 2 ^ k))
  | 0, _, k, h => by omega
  | s + 1, n, 0, _ => by simp [coGo]
  | s + 1, n, k + 1, h => by
    rw [coGo, List.getElem?_cons_succ, co_at s (n / 2) k (by omega), Nat.div_div_eq_div_mul, Nat.pow_succ, Nat.mul_comm 2]
theorem sib_in {n k : Nat} (h0 : 512 ≤ n) (h1 : n < 1024) (hk : k < 9) : 512 ≤ sib (n / 2 ^ k) * 2 ^ k ∧ (sib (n / 2 ^ k) + 1) * 2 ^ k ≤ 1024 ∧ sib (n / 2 ^ k) < 1024 := by
  have : k = 0 ∨ k = 1 ∨ k = 2 ∨ k = 3 ∨ k = 4 ∨ k = 5 ∨ k = 6 ∨ k = 7 ∨ k = 8 := by omega
  unfold sib
  rcases this with rfl | rfl | rfl | rfl | rfl | rfl | rfl | rfl | rfl <;> split <;> omega
end Go.Dr
namespace Go.Proofs.YthhblcbnnmoojaaGreatDoor
open Go.RowKit Go.Mem
open Go.Dr (Lst Rt)
theorem infoDg : (Tryz.prog.info? 23).map (fun i => (i.zero.map (·.cells.size), i.size, i.bytes)) = some (some 32, 32, 32) := by kernel_rfl

theorem info_partsD : ∃ i0, Tryz.prog.info? 23 = some i0 ∧ (∃ z, i0.zero = some z ∧ z.cells.size = 32) ∧ i0.size = 32 ∧ i0.bytes = 32 := by
  have h := infoDg
  cases hq : Tryz.prog.info? 23 with
  | none => rw [hq] at h; simp at h
  | some i =>
    rw [hq] at h
    simp only [Option.map_some, Option.some.injEq, Prod.mk.injEq, Option.map_eq_some_iff] at h
    exact ⟨i, rfl, h.1, h.2.1, h.2.2⟩
/-- an owned row of digests. -/
def OwnD (B : Nat) (W : World) (v : Value) (ds : List (List Nat)) : Prop := W.ownsRow B 23 32 v ds.length (ds.map bv).flatten ∧ ∀ x ∈ ds, x.length = 32 ∧ ∀ u ∈ x, u < 256
theorem append_dg {B : Nat} {w0 W : World} {v : Value} {ds : List (List Nat)} {d : List Nat} (ho : OwnD B W v ds) (hB : B ≤ W.heap.size) (hb0 : Below B w0 W) (hd : d.length = 32 ∧ ∀ u ∈ d, u < 256) (hn : ds.length + 1 ≤ 1000000000000) :
    ∃ v' W', (∀ ty, (Builtin.append_ #[66, 66] ty #[v, .slice (some ⟨W.heap.size, 0, none⟩) 1 1]).run Tryz.prog (W.alloc (.cells (bv d).toArray 23)) = .ok v' W') ∧ OwnD B W' v' (ds ++ [d]) ∧ Below B w0 W' := by
  obtain ⟨i0, hi, ⟨z, hz0, hzs⟩, hz1, hz2⟩ := info_partsD
  have hown := World.ownsRow.alloc ho.1 (.cells (bv d).toArray 23)
  have hba := hb0.alloc hB (.cells (bv d).toArray 23)
  have hBk := Blk.new W 23 (bv d)
  obtain ⟨v', w', hr, h2, h3, _⟩ := run_append_own (P := Tryz.prog) (W.alloc (.cells (bv d).toArray 23)) B 66 0 23 i0 z 32 32 Tryz.underlying66 hi hz0 hz1 hz2 hzs (by omega) v ds.length _ hown ⟨W.heap.size, 0, none⟩ 1 1 (bv d) (by rw [bv_length, hd.1]) (fun j u hj => by rw [Addr.add_lit, Nat.zero_add]; exact hBk.at_ hj) (bv_one d) (by unfold maxLen; omega) (by omega) (by simp; omega)
  refine ⟨v', w', fun ty => ?_, ⟨?_, ?_⟩, hba.grown h3 (by simp; omega) (fun r e => (World.ownsRow.lt hown r e).1)⟩
  · rw [← hr]; rfl
  · rw [List.map_append, List.flatten_append, List.length_append]
    simpa using h2
  · intro x hx
    rcases List.mem_append.1 hx with hx | hx
    · exact ho.2 x hx
    · rw [List.mem_singleton] at hx; subst hx; exact hd

def PrvPost (l : List Lst) (dev : Int) (w : World) (e : Ending) (w' : World) : Prop :=
  (0 ≤ dev ∧ dev < 512 ∧ ∃ v, e = .returned (.tuple #[v, .int .i64 0]) ∧ OwnD w.heap.size w' v (Go.Dr.pathD l dev) ∧ Below w.heap.size w w') ∨
  (¬ (0 ≤ dev ∧ dev < 512) ∧ e = .returned (.tuple #[.slice none 0 0, .int .i64 200]) ∧ Below w.heap.size w w')

set_option maxRecDepth 20000 in
set_option maxHeartbeats 2000000 in
theorem prove_any (K : Nat → Prop) (a : Option Addr) (n c : Nat) (l : List Lst) (dev : Int) (hd : I64 dev) (w : World) (HT : Tabs w) (H : GS K w a n c l) :
    Calls Tryz.prog 40 #[.slice a n c, .int .i64 dev] w (PrvPost l dev w) := by
  have HT' := Lib.hid HT; have H' := Lib.hid H
  clear HT H
  obtain ⟨X, hX⟩ : ∃ X, X = PrvPost l dev w := ⟨_, rfl⟩
  rw [← hX]
  go_enter Tryz.func40, Tryz.ntmps40
  go_wp2_with fail
  refine (copath_any dev hd w).mono ?_
  rintro e w1 (⟨h1, h2, a2, c2, rfl, hR, hb1⟩ | ⟨hout, rfl, hb1⟩)
  · have hT1 := Lib.hid (HT'.out.below hb1); have hG1 := Lib.hid (H'.out.below hb1)
    have hR' := Lib.hid hR
    clear hR
    go_wp2_with fail
    refine (hashed_any K a n c l w1 hT1.out hG1.out).mono ?_
    rintro e w2 ⟨lb, fb, rfl, hH, hb2⟩
    have hH' := Lib.hid hH
    have hRb := Lib.hid (hR'.out.below hb2 (Nat.le_refl _))
    have hbw := Lib.hid (hb1.trans (hb2.mono hb1.size))
    obtain ⟨nn, hnn⟩ : ∃ nn : Nat, Hid (nn = 512 + dev.toNat ∧ 512 ≤ nn ∧ nn < 1024) := ⟨512 + dev.toNat, rfl, by omega, by omega⟩
    clear hH hb1 hb2 hR' hT1 hG1
    unfold hashV
    go_wp2_with fail
    go_loopw [4, 22] (fun v i wr => ∃ k : Nat, k ≤ 9 ∧ i = .int .i64 k ∧ Hid (OwnD w2.heap.size wr v ((Go.Dr.pathD l dev).take k)) ∧ Hid (Below w2.heap.size w2 wr)) (fun _ i _ => 9 - (intOf i).toNat)
    case atStart => exact ⟨0, Nat.zero_le _, rfl, ⟨World.ownsRow_nil _ _ _ _, by simp⟩, Below.refl _ _⟩
    case round =>
      obtain ⟨k, hk, rfl, ho, hbr⟩ := hrel
      by_cases hlt : k < 9
      · obtain ⟨s1, s2, s3⟩ := Go.Dr.sib_in hnn.out.2.1 hnn.out.2.2 hlt
        have hp : (Go.Dr.pathD l dev)[k]? = some (Go.Dr.nodeD l k (Go.Dr.sib (nn / 2 ^ k))) := by
          unfold Go.Dr.pathD
          rw [← hnn.out.1, Go.Dr.path_at l 9 0 nn k hlt, Nat.zero_add]
        have hco : (nv (Go.Dr.coD dev))[k]? = some (.int .i64 ((Go.Dr.sib (nn / 2 ^ k) : Nat) : Int)) := by
          unfold Go.Dr.coD nv
          rw [← hnn.out.1, List.getElem?_map, Go.Dr.co_at 9 nn k hlt]
          rfl
        obtain ⟨b2, off2, ea, hlb, hcl⟩ := hRb.out.cells (by omega)
        have c0 : wr.cell? ⟨b2, off2 + k, none⟩ = some (.int .i64 ((Go.Dr.sib (nn / 2 ^ k) : Nat) : Int)) := (hbr.out.cell (p := ⟨b2, off2 + k, none⟩) hlb).trans (hcl k _ hco)
        have hat := Lib.hid (at_any K a n c l lb fb k (Go.Dr.sib (nn / 2 ^ k)) s1 s2 wr (hH'.out.below hbr.out))
        have hDl := Go.Dr.nodeD_length l k (Go.Dr.sib (nn / 2 ^ k))
        have hDu := Go.Dr.nodeD_lt l k (Go.Dr.sib (nn / 2 ^ k))
        have htk : (Go.Dr.pathD l dev).take (k + 1) = (Go.Dr.pathD l dev).take k ++ [Go.Dr.nodeD l k (Go.Dr.sib (nn / 2 ^ k))] := by rw [List.take_add_one, hp]; rfl
        generalize Go.Dr.nodeD l k (Go.Dr.sib (nn / 2 ^ k)) = D at *
        generalize Go.Dr.sib (nn / 2 ^ k) = nd at *
        have htk' := Lib.hid htk
        have k0 : (0 : Int) ≤ (k : Int) := by omega
        have k1 : (k : Int) < 9 := by omega
        subst ea
        clear htk hp hco hcl s1 s2
        go_wp2_with fail
        refine hat.out.mono ?_
        rintro e w3 ⟨rfl, hb3⟩
        have hbr3 := hbr.out.trans (hb3.mono hbr.out.size)
        have ho3 : OwnD w2.heap.size w3 u4 ((Go.Dr.pathD l dev).take k) := ⟨Sl.owns_below ho.out.1 hb3 (Nat.le_refl _), ho.out.2⟩
        obtain ⟨v', W', hr, ho4, hb4⟩ := append_dg (d := D) ho3 hbr3.size hbr3 ⟨hDl, hDu⟩ (by rw [List.length_take]; omega)
        rw [← htk'.out] at ho4
        have hr' := Lib.hid hr; have ho4' := Lib.hid ho4; have hb4' := Lib.hid hb4
        have hbs := Lib.hid (dig_slice1 hDl w3)
        clear hr ho4 hb4 ho3 hbr3 hb3 ho hbr hat c0
        go_wp2_with (first
          | (refine wpList_buildSlice_run (by rfl) 66 1 _ rfl #[(0, .agg (bv D).toArray)] (by simp only [List.map_toArray, List.map_cons, List.map_nil]; rfl) hbs.out ?_)
          | (at_builtin; refine Lib.wpList_append_run _ rfl _ _ _ _ rfl _ _ rfl rfl _ _ (hr'.out _) ?_))
        go_roundw
        case rel => exact ⟨k + 1, by omega, by go_num, ho4', hb4'⟩
        case measure => simp [intOf]; omega
      · obtain rfl : k = 9 := by omega
        have ho2 := ho.out
        rw [List.take_of_length_le (by unfold Go.Dr.pathD; rw [Go.Dr.pathGo_length]; omega)] at ho2
        have hfin : Hid (X (.returned (.tuple #[u4, .int .i64 0])) wr) := by
          rw [hX]
          exact .inl ⟨h1, h2, u4, rfl, ⟨Sl.owns_mono ho2.1 hbw.out.size, ho2.2⟩, hbw.out.trans (hbr.out.mono hbw.out.size)⟩
        clear hX ho2 ho hbr
        go_wp2_with fail
        exact hfin.out
  · have hfin : Hid (X (.returned (.tuple #[.slice none 0 0, .int .i64 200])) w1) := by rw [hX]; exact .inr ⟨hout, rfl, hb1⟩
    clear hX
    go_wp2_with fail
    exact hfin.out
end Go.Proofs.YthhblcbnnmoojaaGreatDoor
namespace Go.Dr
theorem hasL_at (dev : Int) (l : List Lst) : hasL dev l = match l[posL dev l]? with | some y => decide (y.dev = dev) | none => false := rfl
end Go.Dr
namespace Go.Proofs.YthhblcbnnmoojaaGreatDoor
open Go.RowKit Go.Mem
open Go.Dr (Lst Rt)

theorem cmp_lt {x y : Int} : Lib.compareInt x y < 0 ↔ x < y := by
  unfold Lib.compareInt; split
  · simp [*]
  · split <;> simp <;> omega
theorem cmp_eq {x y : Int} : (Lib.compareInt x y == 0) = decide (x = y) := by
  unfold Lib.compareInt
  split
  · rw [decide_eq_false (by omega)]; rfl
  · split
    · rw [decide_eq_false (by omega)]; rfl
    · rw [decide_eq_true (by omega)]; rfl


set_option maxHeartbeats 400000 in
theorem private_any (x : Int) (w : World) : Calls Tryz.prog 51 #[.int .i64 x] w (fun e w' => e = .returned (.bool (keyOk x)) ∧ w' = w) := by
  go_enter Tryz.func51, Tryz.ntmps51
  by_cases h1 : 1 ≤ x <;> by_cases h2 : x < 2305843009213688669
  all_goals
    go_wp2_with fail
    go_returns
    exact ⟨by simp [keyOk, h1, h2], rfl⟩

set_option maxHeartbeats 400000 in
theorem set1_any (x : Lst) (k : Int) (r : List Value) (hr : r = gC x) (w : World) :
    Calls Tryz.prog 56 #[.agg r.toArray, .int .i64 k] w (RetI (Lib.compareInt x.dev k) w) := by
  subst hr
  have hc := Lib.hid (fun W => Tryz.cmp_Compare_int x.dev k W)
  obtain ⟨W, hW⟩ : ∃ W, Hid (w.alloc (.cells (gC x).toArray 36) = W) := ⟨_, rfl⟩
  have c0 : W.cell? ⟨w.heap.size, 0, none⟩ = some (.int .i64 x.dev) := by rw [← hW.out]; exact (Blk.new w _ (gC x)).at_ (i := 0) rfl
  have hb : Hid (Below w.heap.size w W) := by rw [← hW.out]; exact (Below.refl _ w).alloc (Nat.le_refl _) _
  go_enter Tryz.func56, Tryz.ntmps56
  go_upto_region 1 with fail
  rw [hW.out]
  clear hW
  go_wp2_with fail
  refine (hc.out _).mono ?_
  rintro e w1 ⟨rfl, rfl⟩
  go_wp2_with fail
  go_returns
  exact ⟨rfl, hb.out⟩
set_option maxRecDepth 20000 in
set_option maxHeartbeats 1000000 in
theorem bsfG_any (K : Nat → Prop) (a : Option Addr) (n c : Nat) (l : List Lst) (key : Int) (w : World) (H : GS K w a n c l) (hn : n ≤ 100000) (hs : Go.Dr.chkL l = true) :
    Calls Tryz.prog 55 #[.slice a n c, .int .i64 key, .func (.func 56) #[] #[]] w fun e w' => e = .returned (.tuple #[.int .i64 (Go.Dr.posL key l), .bool (Go.Dr.hasL key l)]) ∧ Below w.heap.size w w' := by
  have hle := RS.le H
  have hmx := RS.max H
  have hlen := RS.len H
  have hc1 := Lib.hid (fun x W => set1_any x key (gC x) rfl W)
  have H' := Lib.hid H
  go_enter Tryz.func55, Tryz.ntmps55
  go_wp2
  go_loopw [9, 10] (fun iv jv wr => ∃ (i j : Nat), i ≤ j ∧ j ≤ n ∧ iv = .int .i64 i ∧ jv = .int .i64 j ∧ (∀ p t, p < i → l[p]? = some t → t.dev < key) ∧ (∀ p t, j ≤ p → l[p]? = some t → key ≤ t.dev) ∧ Below w.heap.size w wr)
    (fun i j _ => (intOf j - intOf i).toNat)
  case atStart => exact ⟨0, n, Nat.zero_le _, Nat.le_refl _, rfl, rfl, fun p t hp => absurd hp (by omega), fun p t hp ht => absurd (List.getElem?_eq_some_iff.1 ht).1 (by omega), Below.refl _ _⟩
  case round =>
    obtain ⟨i, j, hij, hjn, rfl, rfl, hlo, hhi, hb⟩ := hrel
    by_cases hlt : i < j
    · have hlt' : (i : Int) < (j : Int) := by omega
      have hm1 : (i + j) / 2 < n := by omega
      have hm2 : i ≤ (i + j) / 2 ∧ (i + j) / 2 < j := by omega
      have hkl : (i + j) / 2 < l.length := by omega
      have hget : l[(i + j) / 2]? = some l[(i + j) / 2] := List.getElem?_eq_getElem hkl
      obtain ⟨b, off, rfl, hbs, _, _, hrg⟩ := GS.cells H hget
      generalize l[(i + j) / 2] = t at *
      have c0 : wr.cell? ⟨b, off + ((i + j) / 2) * 5, none⟩ = some (.int .i64 t.dev) := (hb.cell (p := ⟨b, _, none⟩) hbs).trans (by simpa using hrg 0 _ rfl)
      have c1 : wr.cell? ⟨b, off + ((i + j) / 2) * 5 + 1, none⟩ = some (.int .i64 t.ver) := (hb.cell (p := ⟨b, _, none⟩) hbs).trans (by exact hrg 1 _ rfl)
      have c2 : wr.cell? ⟨b, off + ((i + j) / 2) * 5 + 2, none⟩ = some (.int .i64 t.leaf) := (hb.cell (p := ⟨b, _, none⟩) hbs).trans (by exact hrg 2 _ rfl)
      have c3 : wr.cell? ⟨b, off + ((i + j) / 2) * 5 + 3, none⟩ = some (.int .i64 t.vers) := (hb.cell (p := ⟨b, _, none⟩) hbs).trans (by exact hrg 3 _ rfl)
      have c4 : wr.cell? ⟨b, off + ((i + j) / 2) * 5 + 4, none⟩ = some (.bool t.gone) := (hb.cell (p := ⟨b, _, none⟩) hbs).trans (by exact hrg 4 _ rfl)
      clear hrg
      have hi1 : ((i : Int) + (j : Int)) / 2 < (n : Int) := by omega
      have hi2 : (0 : Int) ≤ ((i : Int) + (j : Int)) / 2 := by omega
      have hi3 : (((i : Int) + (j : Int)) / 2).toNat = (i + j) / 2 := by omega
      by_cases hk : t.dev < key
      · have hcm : Lib.compareInt t.dev key < 0 := cmp_lt.2 hk
        have hlo' : Hid (∀ p u, p < (i + j) / 2 + 1 → l[p]? = some u → u.dev < key) := fun p u hp hu => by
          by_cases e : p = (i + j) / 2
          · subst e; rw [hget] at hu; cases hu; exact hk
          · exact Int.lt_trans (Go.Dr.chk_sorted hs (by omega) hu hget) hk
        have hhi' := Lib.hid hhi
        clear hlo hhi hget hkl
        go_wp2_with (refine (hc1.out _ _).mono ?_; rintro e w1 ⟨rfl, hb1⟩)
        go_roundw
        case rel => exact ⟨(i + j) / 2 + 1, j, by omega, hjn, by go_num, rfl, hlo'.out, hhi'.out, hb.trans (hb1.mono hb.size)⟩
        case measure => simp [intOf]; omega
      · have hcm : (Lib.compareInt t.dev key < 0) = False := by rw [eq_iff_iff, iff_false, cmp_lt]; exact hk
        have hhi' : Hid (∀ p u, (i + j) / 2 ≤ p → l[p]? = some u → key ≤ u.dev) := fun p u hp hu => by
          by_cases e : p = (i + j) / 2
          · subst e; rw [hget] at hu; cases hu; omega
          · have := Go.Dr.chk_sorted hs (show (i + j) / 2 < p by omega) hget hu; omega
        have hlo' := Lib.hid hlo
        clear hlo hhi hget hkl
        go_wp2_with (refine (hc1.out _ _).mono ?_; rintro e w1 ⟨rfl, hb1⟩)
        go_roundw
        case rel => exact ⟨i, (i + j) / 2, by omega, by omega, rfl, by go_num, hlo'.out, hhi'.out, hb.trans (hb1.mono hb.size)⟩
        case measure => simp [intOf]; omega
    · obtain rfl : i = j := by omega
      have hpos : Go.Dr.posL key l = i := Go.Dr.posL_eq (by omega) hlo (fun x hx => hhi i x (Nat.le_refl _) hx)
      by_cases hin : i < n
      · have hkl : i < l.length := by omega
        have hget : l[i]? = some l[i] := List.getElem?_eq_getElem hkl
        obtain ⟨b, off, rfl, hbs, _, _, hrg⟩ := GS.cells H hget
        generalize l[i] = t at *
        have c0 : wr.cell? ⟨b, off + i * 5, none⟩ = some (.int .i64 t.dev) := (hb.cell (p := ⟨b, _, none⟩) hbs).trans (by simpa using hrg 0 _ rfl)
        have c1 : wr.cell? ⟨b, off + i * 5 + 1, none⟩ = some (.int .i64 t.ver) := (hb.cell (p := ⟨b, _, none⟩) hbs).trans (by exact hrg 1 _ rfl)
        have c2 : wr.cell? ⟨b, off + i * 5 + 2, none⟩ = some (.int .i64 t.leaf) := (hb.cell (p := ⟨b, _, none⟩) hbs).trans (by exact hrg 2 _ rfl)
        have c3 : wr.cell? ⟨b, off + i * 5 + 3, none⟩ = some (.int .i64 t.vers) := (hb.cell (p := ⟨b, _, none⟩) hbs).trans (by exact hrg 3 _ rfl)
        have c4 : wr.cell? ⟨b, off + i * 5 + 4, none⟩ = some (.bool t.gone) := (hb.cell (p := ⟨b, _, none⟩) hbs).trans (by exact hrg 4 _ rfl)
        clear hrg
        have hfin : Hid (Ending.returned (.tuple #[.int .i64 i, .bool (Lib.compareInt t.dev key == 0)]) = .returned (.tuple #[.int .i64 (Go.Dr.posL key l), .bool (Go.Dr.hasL key l)])) := by
          rw [cmp_eq, Go.Dr.hasL_at, hpos, hget]
          rfl
        have hin' : (i : Int) < (n : Int) := by omega
        clear hlo hhi hget hkl hpos
        go_wp2_with (refine (hc1.out _ _).mono ?_; rintro e w1 ⟨rfl, hb1⟩)
        go_ret2
        exact ⟨hfin.out, hb.trans (hb1.mono hb.size)⟩
      · obtain rfl : i = n := by omega
        have hfin : Hid (Ending.returned (.tuple #[.int .i64 i, .bool false]) = .returned (.tuple #[.int .i64 (Go.Dr.posL key l), .bool (Go.Dr.hasL key l)])) := by
          rw [Go.Dr.hasL_at, hpos, List.getElem?_eq_none (by omega)]
          rfl
        clear hlo hhi hpos
        go_wp2
        go_ret2
        exact ⟨hfin.out, hb⟩

end Go.Proofs.YthhblcbnnmoojaaGreatDoor
namespace Go.Proofs.YthhblcbnnmoojaaGreatDoor
open Go.RowKit Go.Mem
open Go.Dr (Lst Rt)

theorem mapM_some {α β : Type} {f : α → Option β} {g : α → β} : ∀ {l : List α}, (∀ x ∈ l, f x = some (g x)) → l.mapM f = some (l.map g)
  | [], _ => by simp
  | x :: r, h => by
    rw [List.mapM_cons, h x (by simp), mapM_some (fun y hy => h y (by simp [hy]))]
    rfl
theorem flat_range (g : Nat → Lit) (d : List Nat) : ∀ n, n ≤ d.length → ((List.range n).map fun i => [g (d.getD i 0)]).flatten = (d.take n).map g
  | 0, _ => by simp
  | n + 1, h => by
    rw [List.range_succ, List.map_append, List.flatten_append, flat_range g d n (by omega), List.take_add_one, List.map_append]
    have hn : n < d.length := by omega
    simp [List.getD, List.getElem?_eq_getElem hn]

theorem cells35 : Tryz.prog.cellsOf 23 = 32 := by kernel_rfl
theorem cells5 : Tryz.prog.cellsOf 5 = 1 := by kernel_rfl
theorem under35 : Tryz.prog.underlying 23 = some (.array 32 5) := Tryz.underlying23
theorem keyT35 : Tryz.prog.keyTypeAt 2 23 = true := by kernel_rfl
/-- a digest's letters. -/
def digL (d : List Nat) : List Lit := d.map fun (x : Nat) => Lit.int .u8 (x : Int)
theorem digL_inj {x y : List Nat} (h : digL x = digL y) : x = y := by
  refine (List.map_inj_right ?_).1 h
  intro a b hab
  simp only [Lit.int.injEq, true_and] at hab
  omega
def Dig (d : List Nat) : Prop := d.length = 32 ∧ ∀ u ∈ d, u < 256

theorem u8_wf : ∀ x : Nat, x < 256 → (Lit.int .u8 (x : Int)).wf = true := by decide +kernel

theorem keyLits_dig (D : Nat) {d : List Nat} (h : Dig d) : Tryz.prog.keyLits (D + 2) 23 (bv d) = some (digL d) := by
  unfold Program.keyLits
  rw [under35]
  simp only [cells35, cells5, bv_length, h.1, if_true]
  rw [mapM_some (g := fun i => [Lit.int .u8 ((d.getD i 0 : Nat) : Int)])]
  · have := flat_range (fun (x : Nat) => Lit.int .u8 (x : Int)) d 32 (by rw [h.1]; exact Nat.le_refl _)
    rw [Option.map_some, this, List.take_of_length_le (by rw [h.1]; exact Nat.le_refl _)]
    rfl
  · intro i hi
    have hil : i < d.length := by rw [h.1]; simpa using hi
    have e1 : ((bv d).drop (i * 1)).take 1 = [.int .u8 ((d.getD i 0 : Nat) : Int)] := by
      rw [Nat.mul_one, List.drop_eq_getElem_cons (by rw [bv_length]; exact hil), List.take_succ_cons, List.take_zero]
      simp [bv, List.getD, List.getElem?_eq_getElem hil]
    rw [e1]
    unfold Program.keyLits
    rw [Tryz.underlying5]
    have hx : d.getD i 0 < 256 := by
      rw [List.getD, List.getElem?_eq_getElem hil]
      exact h.2 _ (List.getElem_mem hil)
    generalize d.getD i 0 = x at *
    have hw : (Lit.int .u8 (x : Int)).wf = true := u8_wf x hx
    simp [hw]

theorem formed_dig {d : List Nat} (h : Dig d) : (Value.agg (bv d).toArray).formed Tryz.prog 23 = true := by
  simp [Value.formed, bv_length, h.1, cells35]

/-- digests compared. -/
theorem eq_dig {x y : List Nat} (hx : Dig x) (hy : Dig y) (w : World) : (Op.equalIn 10000 23 (.agg (bv x).toArray) (.agg (bv y).toArray)).run Tryz.prog w = .ok (decide (x = y)) w := by
  obtain ⟨r, hr, hiff⟩ := run_equalIn_deep (P := Tryz.prog) 9998 2 23 keyT35 w 2 2 (.agg (bv x).toArray) (.agg (bv y).toArray) (digL x) (digL y) (formed_dig hx) (formed_dig hy)
    (by simpa [Value.cells] using keyLits_dig 0 hx) (by simpa [Value.cells] using keyLits_dig 0 hy)
  have e : r = decide (x = y) := by
    rw [Bool.eq_iff_iff, hiff, decide_eq_true_iff]
    exact ⟨digL_inj, fun e => by rw [e]⟩
  rw [← e]
  exact hr

theorem cellsSg : Tryz.prog.cellsOf 25 = 2 := by kernel_rfl
theorem cellsI : Tryz.prog.cellsOf 3 = 1 := by kernel_rfl
theorem i64_wf {x : Int} (h : I64 x) : (Lit.int .i64 x).wf = true := by
  have e1 : IntKind.i64.min = -9223372036854775808 := rfl
  have e2 : IntKind.i64.max = 9223372036854775807 := rfl
  unfold I64 at h
  simp only [Lit.wf, Bool.and_eq_true, decide_eq_true_eq]
  omega
theorem keyLits_int (D : Nat) {x : Int} (h : I64 x) : Tryz.prog.keyLits (D + 1) 3 [.int .i64 x] = some [.int .i64 x] := by
  unfold Program.keyLits
  rw [Tryz.underlying3]
  simp [i64_wf h]
theorem keyLits_sig (D : Nat) {r s : Int} (hr : I64 r) (hs : I64 s) : Tryz.prog.keyLits (D + 2) 25 [.int .i64 r, .int .i64 s] = some [.int .i64 r, .int .i64 s] := by
  unfold Program.keyLits
  rw [Tryz.underlying25]
  simp only [cellsSg, List.length_cons, List.length_nil]
  simp [cellsI, keyLits_int D hr, keyLits_int D hs]

theorem cellsRt : Tryz.prog.cellsOf 27 = 67 := by kernel_rfl
theorem keyTR : Tryz.prog.keyTypeAt 3 27 = true := by kernel_rfl
def litR (x : Rt) : List Lit := [.int .i64 x.no] ++ (digL x.dig ++ (digL x.prev ++ [.int .i64 x.r, .int .i64 x.s]))
theorem rC_parts {x : Rt} (ok : OkQ x) : ((rC x).drop 0).take 1 = [.int .i64 x.no] ∧ ((rC x).drop 1).take 32 = bv x.dig ∧ ((rC x).drop 33).take 32 = bv x.prev ∧ ((rC x).drop 65).take 2 = [.int .i64 x.r, .int .i64 x.s] := by
  have hl : (bv x.dig).length = 32 := by rw [bv_length, ok.dig]
  have hl2 : (bv x.prev).length = 32 := by rw [bv_length, ok.prev]
  unfold rC
  refine ⟨rfl, ?_, ?_, ?_⟩
  · show List.take 32 (bv x.dig ++ (bv x.prev ++ [.int .i64 x.r, .int .i64 x.s])) = _
    rw [List.take_append_of_le_length (by omega), List.take_of_length_le (by omega)]
  · show List.take 32 (List.drop 32 (bv x.dig ++ (bv x.prev ++ [.int .i64 x.r, .int .i64 x.s]))) = _
    rw [List.drop_append_of_le_length (by omega), List.drop_of_length_le (by omega), List.nil_append, List.take_append_of_le_length (by omega), List.take_of_length_le (by omega)]
  · show List.take 2 (List.drop 64 (bv x.dig ++ (bv x.prev ++ [.int .i64 x.r, .int .i64 x.s]))) = _
    rw [← List.append_assoc, List.drop_left' (by rw [List.length_append]; omega)]
    rfl
theorem keyLits_rt (D : Nat) {x : Rt} (ok : OkQ x) : Tryz.prog.keyLits (D + 3) 27 (rC x) = some (litR x) := by
  obtain ⟨p0, p1, p2, p3⟩ := rC_parts ok
  have q0 := keyLits_int (D + 1) ok.no
  have q1 := keyLits_dig D ⟨ok.dig, ok.digl⟩
  have q2 := keyLits_dig D ⟨ok.prev, ok.prevl⟩
  have q3 := keyLits_sig D ok.r ok.s
  unfold Program.keyLits
  rw [Tryz.underlying27]
  have hlen : (rC x).length = Tryz.prog.cellsOf 27 := by rw [rC_length ok, cellsRt]
  obtain ⟨cs, hcs⟩ : ∃ cs, cs = rC x := ⟨_, rfl⟩
  rw [← hcs] at p0 p1 p2 p3 hlen ⊢
  match cs, hlen with
  | [], hl => rw [cellsRt] at hl; cases hl
  | c :: r, hl =>
    simp only [hl]
    rw [if_pos ⟨trivial, by kernel_rfl⟩]
    simp only [List.mapM_cons, List.mapM_nil, cellsI, cells35, cellsSg, p0, p1, p2, p3, q0, q1, q2, q3]
    rfl
theorem litR_inj {a b : Rt} (ha : OkQ a) (hb : OkQ b) (e : litR a = litR b) : a = b := by
  unfold litR at e
  simp only [List.cons_append, List.nil_append, List.cons.injEq, Lit.int.injEq, true_and] at e
  obtain ⟨e0, e1⟩ := e
  have hl : (digL a.dig).length = (digL b.dig).length := by simp [digL, ha.dig, hb.dig]
  have hl2 : (digL a.prev).length = (digL b.prev).length := by simp [digL, ha.prev, hb.prev]
  obtain ⟨e2, e3⟩ := List.append_inj e1 hl
  obtain ⟨e4, e5⟩ := List.append_inj e3 hl2
  simp only [List.cons.injEq, Lit.int.injEq, true_and, and_true] at e5
  exact Go.Dr.eqR_iff.1 (by unfold Go.Dr.eqR; exact decide_eq_true ⟨e0, digL_inj e2, digL_inj e4, e5.1, e5.2⟩)
theorem formed_rt {x : Rt} (ok : OkQ x) : (Value.agg (rC x).toArray).formed Tryz.prog 27 = true := by
  simp [Value.formed, rC_length ok, cellsRt]
/-- roots compared. -/
theorem eq_root {a b : Rt} (ha : OkQ a) (hb : OkQ b) (w : World) : (Op.equalIn 10000 27 (.agg (rC a).toArray) (.agg (rC b).toArray)).run Tryz.prog w = .ok (Go.Dr.eqR a b) w := by
  obtain ⟨r, hr, hiff⟩ := run_equalIn_deep (P := Tryz.prog) 9997 3 27 keyTR w 3 3 (.agg (rC a).toArray) (.agg (rC b).toArray) (litR a) (litR b) (formed_rt ha) (formed_rt hb)
    (by simpa [Value.cells] using keyLits_rt 0 ha) (by simpa [Value.cells] using keyLits_rt 0 hb)
  have e : r = Go.Dr.eqR a b := by
    rw [Bool.eq_iff_iff, hiff, Go.Dr.eqR_iff]
    exact ⟨litR_inj ha hb, fun e => by rw [e]⟩
  rw [← e]
  exact hr
end Go.Proofs.YthhblcbnnmoojaaGreatDoor
