/- the tally functions, their results as slices of tallies; the examples -/
import Derived.Test.YtlmngdcifappoaaH
import Derived.Test.YtlmngdcifappoaaG
namespace Go.Proofs.Ytlmngdcifappoaa
open Go.RowKit
open Tally (Tl)

/-- A list of k tallies and an error code. -/
def TPost (y : List Tl) (k : Nat) (er : Int) (w : World) (e : Ending) (w' : World) : Prop :=
  ∃ a c, e = .returned (.tuple #[.slice a k c, .int .i64 er]) ∧ TS w' a k c y ∧ Below w.heap.size w w'

theorem tpost_of_ret {r : List Tl × Int} {w : World} {f : FuncId} {args : Array Value} (h : Calls Try.prog f args w (Ret w.heap.size r w)) (y : List Tl) (k : Nat) (er : Int) (hr : r = (y, er)) (hk : y.length = k) (hw : Tally.WF r.1) :
    Calls Try.prog f args w (TPost y k er w) := h.mono fun e w' ⟨v, he, hown, hb⟩ => by
  subst hr
  subst hk
  obtain ⟨a, c, hv, T, _⟩ := ts_of_owns hown hw
  exact ⟨a, c, by rw [he, hv], T, hb⟩

def InI (x : Int) : Prop := -9223372036854775808 ≤ x ∧ x ≤ 9223372036854775807

theorem add_t (a : Option Addr) (n c : Nat) (l : List Tl) (d s m : Int) (w : World) (H : TS w a n c l) (hn : n ≤ 1000000) (hd : InI d) (hs : InI s) (hm : InI m) (y : List Tl) (k : Nat) (er : Int) (hr : Tally.addSpec l d s m = (y, er)) (hk : y.length = k) :
    Calls Try.prog 14 #[.slice a n c, .agg #[.int .i64 d, .int .i64 s], .int .i64 m] w (TPost y k er w) :=
  tpost_of_ret (add_any a n c l d s m w H hn) y k er hr hk (Tally.addSpec_wf H.wf hd hs hm)
theorem radd_t (a : Option Addr) (n c : Nat) (l : List Tl) (d s m : Int) (w : World) (H : TS w a n c l) (hn : n ≤ 1000000) (hd : InI d) (hs : InI s) (hm : InI m) (y : List Tl) (k : Nat) (er : Int) (hr : Tally.addSpec l d s m = (y, er)) (hk : y.length = k) :
    Calls Try.prog 15 #[.slice a n c, .agg #[.int .i64 d, .int .i64 s], .int .i64 m] w (TPost y k er w) :=
  tpost_of_ret (radd_any a n c l d s m w H hn) y k er hr hk (Tally.addSpec_wf H.wf hd hs hm)
theorem join_t (a b : Option Addr) (n c m d : Nat) (l r : List Tl) (w : World) (H : TS w a n c l) (G : TS w b m d r) (hn : n ≤ 1000) (hm : m ≤ 1000) (y : List Tl) (k : Nat) (er : Int) (hr : Tally.joinSpec l r = (y, er)) (hk : y.length = k) :
    Calls Try.prog 19 #[.slice a n c, .slice b m d] w (TPost y k er w) :=
  tpost_of_ret (join_any a b n c m d l r w H G hn hm) y k er hr hk (Tally.joinSpec_wf H.wf G.wf)
theorem value_t (a : Option Addr) (n c : Nat) (l : List Tl) (w : World) (H : TS w a n c l) (v er : Int) (hr : Tally.valueSpec l = (v, er)) :
    Calls Try.prog 12 #[.slice a n c] w fun e w' => e = .returned (.tuple #[.int .i64 v, .int .i64 er]) ∧ Below w.heap.size w w' :=
  (value_any a n c l w H).mono fun e w' ⟨he, hb⟩ => ⟨by rw [he, hr], hb⟩

theorem ts_nil (w : World) : TS w none 0 0 [] := ⟨rfl, Nat.le_refl _, by omega, fun _ => ⟨rfl, rfl⟩, fun h => absurd h (by omega), Tally.WF.nil⟩

/-- a literal of one tally. -/
theorem ts_one (w : World) (d s n : Int) (hd : InI d) (hs : InI s) (hn : InI n) : TS (w.alloc (.cells #[.int .i64 d, .int .i64 s, .int .i64 n] 38)) (some ⟨w.heap.size, 0, none⟩) 1 1 [⟨d, s, n⟩] :=
  ⟨rfl, Nat.le_refl _, by omega, fun h => (by cases h), fun _ => ⟨w.heap.size, 0, rfl, (by simp), fun i t ht => (by
    obtain ⟨c0, c1, c2⟩ := cell_new3 w (.int .i64 d) (.int .i64 s) (.int .i64 n) 38
    match i, ht with
    | 0, ht => cases ht; exact ⟨c0, c1, c2⟩)⟩, Tally.WF.one (t := ⟨d, s, n⟩) ⟨hd, hs, hn⟩⟩

set_option maxHeartbeats 4000000 in
set_option maxRecDepth 100000 in
theorem sane_any (w : World) : Calls Try.prog 10 #[] w fun e w' => e = .returned (.bool true) ∧ Below w.heap.size w w' := by
  have i3 : InI 3 := by unfold InI; omega
  have i1 : InI 1 := by unfold InI; omega
  have i4 : InI 4 := by unfold InI; omega
  have i5 : InI 5 := by unfold InI; omega
  have i2 : InI (-2) := by unfold InI; omega
  have i0 : InI 0 := by unfold InI; omega
  go_enter Try.func10, Try.ntmps10
  go_wp2_with fail
  refine (add_t none 0 0 [] 3 1 5 w (ts_nil w) (by omega) i3 i1 i5 [⟨3, 1, 5⟩] 1 0 (by decide +kernel) rfl).mono ?_
  rintro e w1 ⟨a, ca, rfl, TA, hb1⟩
  go_wp2_with fail
  refine (add_t a 1 ca [⟨3, 1, 5⟩] 3 4 (-2) w1 TA (by omega) i3 i4 i2 [⟨3, 4, 3⟩] 1 0 (by decide +kernel) rfl).mono ?_
  rintro e w2 ⟨b, cb, rfl, TB, hb2⟩
  have TA2 := TA.below hb2 (Nat.le_refl _)
  have hB2 := hb1.trans (hb2.mono hb1.size)
  go_wp2_with fail
  refine (add_t b 1 cb [⟨3, 4, 3⟩] 3 4 1 w2 TB (by omega) i3 i4 i1 [] 0 182 (by decide +kernel) rfl).mono ?_
  rintro e w3 ⟨z3, c3, rfl, _, hb3⟩
  have TA3 := TA2.below hb3 (Nat.le_refl _)
  have TB3 := TB.below hb3 (Nat.le_refl _)
  have hB3 := hB2.trans (hb3.mono hB2.size)
  go_wp2_with fail
  refine (add_t none 0 0 [] 3 0 1 w3 (ts_nil w3) (by omega) i3 i0 i1 [] 0 150 (by decide +kernel) rfl).mono ?_
  rintro e w4 ⟨z4, c4, rfl, _, hb4⟩
  have TA4 := TA3.below hb4 (Nat.le_refl _)
  have TB4 := TB3.below hb4 (Nat.le_refl _)
  have hB4 := hB3.trans (hb4.mono hB3.size)
  go_wp2_with fail
  refine (value_t b 1 cb [⟨3, 4, 3⟩] w4 TB4 3 0 (by decide +kernel)).mono ?_
  rintro e w5 ⟨rfl, hb5⟩
  have TA5 := TA4.below hb5 (Nat.le_refl _)
  have TB5 := TB4.below hb5 (Nat.le_refl _)
  have hB5 := hB4.trans (hb5.mono hB4.size)
  go_wp2_with fail
  refine (value_t none 0 0 [] w5 (ts_nil w5) 0 0 (by decide +kernel)).mono ?_
  rintro e w6 ⟨rfl, hb6⟩
  have TA6 := TA5.below hb6 (Nat.le_refl _)
  have TB6 := TB5.below hb6 (Nat.le_refl _)
  have hB6 := hB5.trans (hb6.mono hB5.size)
  go_wp2_with fail
  refine (join_t b a 1 cb 1 ca [⟨3, 4, 3⟩] [⟨3, 1, 5⟩] w6 TB6 TA6 (by omega) (by omega) [⟨3, 4, 3⟩] 1 0 (by decide +kernel) rfl).mono ?_
  rintro e w7 ⟨x, cx, rfl, TX, hb7⟩
  have TB7 := TB6.below hb7 (Nat.le_refl _)
  have hB7 := hB6.trans (hb7.mono hB6.size)
  go_wp2_with fail
  have hb8 : Below w7.heap.size w7 (w7.alloc (.cells #[.int .i64 3, .int .i64 0, .int .i64 0] 38)) := (Below.refl _ _).alloc (Nat.le_refl _) _
  have TX8 := TX.below hb8 (Nat.le_refl _)
  have TB8 := TB7.below hb8 (Nat.le_refl _)
  have hB8 := hB7.trans (hb8.mono hB7.size)
  refine (value_t _ 1 1 [⟨3, 0, 0⟩] _ (ts_one w7 3 0 0 i3 i0 i0) 0 150 (by decide +kernel)).mono ?_
  rintro e w9 ⟨rfl, hb9⟩
  have TX9 := TX8.below hb9 (Nat.le_refl _)
  have TB9 := TB8.below hb9 (Nat.le_refl _)
  have hB9 := hB8.trans (hb9.mono hB8.size)
  go_wp2_with fail
  have hb10 : Below w9.heap.size w9 (w9.alloc (.cells #[.int .i64 3, .int .i64 4, .int .i64 3] 38)) := (Below.refl _ _).alloc (Nat.le_refl _) _
  have TX10 := TX9.below hb10 (Nat.le_refl _)
  have TB10 := TB9.below hb10 (Nat.le_refl _)
  have hB10 := hB9.trans (hb10.mono hB9.size)
  have TW := ts_one w9 3 4 3 i3 i4 i3
  refine (same_any b _ 1 cb 1 1 [⟨3, 4, 3⟩] [⟨3, 4, 3⟩] _ TB10 TW).mono ?_
  rintro e w11 ⟨rfl, hb11⟩
  have TX11 := TX10.below hb11 (Nat.le_refl _)
  have TW11 := TW.below hb11 (Nat.le_refl _)
  have hB11 := hB10.trans (hb11.mono hB10.size)
  have hs : Tally.same [⟨3, 4, 3⟩] [⟨3, 4, 3⟩] = true := Tally.same_self _
  go_wp2_with fail
  refine (same_any x _ 1 cx 1 1 [⟨3, 4, 3⟩] [⟨3, 4, 3⟩] _ TX11 TW11).mono ?_
  rintro e w12 ⟨rfl, hb12⟩
  have TW12 := TW11.below hb12 (Nat.le_refl _)
  have hB12 := hB11.trans (hb12.mono hB11.size)
  have hc : Tally.chkE [⟨3, 4, 3⟩] = 0 := by rfl
  go_wp2_with fail
  refine (check_any _ 1 1 [⟨3, 4, 3⟩] _ TW12).mono ?_
  rintro e w13 ⟨rfl, hb13⟩
  have hB13 := hB12.trans (hb13.mono hB12.size)
  go_wp2_with fail
  go_ret
  exact ⟨rfl, hB13⟩

end Go.Proofs.Ytlmngdcifappoaa
