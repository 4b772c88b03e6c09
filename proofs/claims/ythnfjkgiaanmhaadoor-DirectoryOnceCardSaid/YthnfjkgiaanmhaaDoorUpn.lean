/- package paths: Leaf, up, along, Copath -/
import Derived.Test.YthnfjkgiaanmhaaDoorRgq
import Derived.Test.YthnfjkgiaanmhaaDoorDiG
import Derived.RangeFuncFrom
import Derived.RangeFuncBox
import Derived.RangeFuncLeaves
import Derived.Shelf.Abstract
import Derived.OwnWalkIn
import Derived.TacticsInMore
import Derived.LoopNIn
import Derived.LoopIn
namespace Go.Dr
/-- a node and those above it, s steps. -/
def upGo : Nat → Nat → List Nat
  | 0, _ => []
  | s + 1, n => n :: upGo s (n / 2)
theorem upGo_length : ∀ s n, (upGo s n).length = s
  | 0, _ => rfl
  | s + 1, n => by rw [upGo, List.length_cons, upGo_length s]
theorem upGo_at : ∀ (s n k : Nat), k < s → (upGo s n)[k]? = some (n / 2 ^ k)
  | 0, _, k, h => by omega
  | s + 1, n, 0, _ => by simp [upGo]
  | s + 1, n, k + 1, h => by
    rw [upGo, List.getElem?_cons_succ, upGo_at s (n / 2) k (by omega), Nat.div_div_eq_div_mul, Nat.pow_succ, Nat.mul_comm 2]
theorem upGo_take {s n k : Nat} (h : k < s) : (upGo s n).take (k + 1) = (upGo s n).take k ++ [n / 2 ^ k] := by
  rw [List.take_add_one, upGo_at s n k h]; rfl
theorem up_big {s n k : Nat} (hn : n / 2 ^ s = 1) (h : k < s) : 1 < n / 2 ^ k := by
  have e : s = k + (s - k - 1 + 1) := by omega
  rw [e, Nat.pow_add, ← Nat.div_div_eq_div_mul, Nat.pow_succ, Nat.mul_comm, ← Nat.div_div_eq_div_mul] at hn
  have : 0 < n / 2 ^ k / 2 / 2 ^ (s - k - 1) := by omega
  have h2 : 2 ^ (s - k - 1) ≤ n / 2 ^ k / 2 := by
    rcases Nat.lt_or_ge (n / 2 ^ k / 2) (2 ^ (s - k - 1)) with h | h
    · rw [Nat.div_eq_of_lt h] at this; omega
    · exact h
  have := Nat.two_pow_pos (s - k - 1)
  omega
end Go.Dr
namespace Go.Proofs.YthnfjkgiaanmhaaDoor
open Go.RowKit Go.Mem Go.Shelf
attribute [local go_sem] Oper.semAt_some

set_option maxHeartbeats 400000 in
theorem pleaf_any (dev : Int) (_hd : I64 dev) (w : World) : Calls Tryd.prog 69 #[.int .i64 dev] w (fun e w' => e = .returned (.tuple #[.int .i64 (if 0 ≤ dev ∧ dev < 512 then 512 + dev else 0), .int .i64 (if 0 ≤ dev ∧ dev < 512 then 0 else 200)]) ∧ w' = w) := by
  obtain ⟨V1, hV1⟩ : ∃ V : Int, Hid ((if 0 ≤ dev ∧ dev < 512 then 512 + dev else 0) = V) := ⟨_, rfl⟩
  obtain ⟨V2, hV2⟩ : ∃ V : Int, Hid ((if 0 ≤ dev ∧ dev < 512 then 0 else 200) = V) := ⟨_, rfl⟩
  rw [hV1.out, hV2.out]
  go_enter Tryd.func69, Tryd.ntmps69
  by_cases h1 : 0 ≤ dev
  · by_cases h2 : dev < 512
    · have h1' : decide (dev < 0) = false := by simpa using h1
      have h2' : decide (512 ≤ dev) = false := by simpa using h2
      have hw : IntKind.i64.wrap (512 + dev) = 512 + dev := IntWalk.i64_in _ (by omega)
      go_wp2_with fail
      go_returns
      exact ⟨by rw [← hV1.out, ← hV2.out, if_pos ⟨h1, h2⟩, if_pos ⟨h1, h2⟩]; rfl, rfl⟩
    · have h1' : decide (dev < 0) = false := by simpa using h1
      have h2' : decide (512 ≤ dev) = true := by simpa using h2
      go_wp2_with fail
      go_returns
      exact ⟨by rw [← hV1.out, ← hV2.out, if_neg (fun h => by omega), if_neg (fun h => by omega)]; rfl, rfl⟩
  · have h1' : decide (dev < 0) = true := by simpa using h1
    go_wp2_with fail
    go_returns
    exact ⟨by rw [← hV1.out, ← hV2.out, if_neg (fun h => by omega), if_neg (fun h => by omega)]; rfl, rfl⟩

set_option maxHeartbeats 400000 in
theorem parent_any (n : Nat) (hn : n < 1024) (w : World) : Calls Tryd.prog 85 #[.int .i64 (n : Int)] w (fun e w' => e = .returned (.int .i64 ((n / 2 : Nat) : Int)) ∧ w' = w) := by
  go_enter Tryd.func85, Tryd.ntmps85
  go_wp2_with fail
  go_returns
  have e : (n : Int) / 2 = ((n / 2 : Nat) : Int) := by omega
  exact ⟨by rw [← e]; rfl, rfl⟩

theorem xor_sib : ∀ n : Fin 1024, bits BinOp.xor IntKind.i64 ((n.val : Nat) : Int) 1 = ((Go.Dr.sib n.val : Nat) : Int) := by decide +kernel
theorem and_one : ∀ n : Fin 1024, bits BinOp.and IntKind.i64 ((n.val : Nat) : Int) 1 = ((n.val % 2 : Nat) : Int) := by decide +kernel
set_option maxHeartbeats 400000 in
theorem sibling_any (n : Nat) (hn : n < 1024) (w : World) : Calls Tryd.prog 53 #[.int .i64 (n : Int)] w (fun e w' => e = .returned (.int .i64 ((Go.Dr.sib n : Nat) : Int)) ∧ w' = w) := by
  go_enter Tryd.func53, Tryd.ntmps53
  go_wp2_with fail
  go_returns
  have e := xor_sib ⟨n, hn⟩
  exact ⟨by rw [← e]; rfl, rfl⟩

abbrev encN (x : Nat) : Array Value := #[.int .i64 (x : Int)]

set_option maxRecDepth 20000 in
set_option maxHeartbeats 4000000 in
theorem upIter_in (l nb s n B z : Nat) (hn : n / 2 ^ s = 1) (hn2 : n < 1024) (J Jx : List Nat → World → Prop) (W : World)
    (hB : Blk W nb 110 [.int .i64 (n : Int)]) (hnb : nb < B) (hnz : nb ≠ z) (hJ : Deaf (fun r => r = nb) J)
    (hY : ∀ pre x A, J pre A → pre.length < s → x < 1024 → YieldAt Fence.wide 4 Tryd.prog l (encN x) A fun e C =>
      (e = .returned (.bool true) ∧ J (pre ++ [x]) C ∧ KpZ B z A C) ∨ (e = .returned (.bool false) ∧ Jx (pre ++ [x]) C))
    (h0 : J [] W) :
    CallsIn Fence.wide 5 Tryd.prog 84 #[.func (.yield l) #[] #[], .pointer (some ⟨nb, 0, none⟩)] W fun e C => (∃ v, e = .returned v) ∧
      ((∃ xs, xs = Go.Dr.upGo s n ∧ J xs C) ∨ (∃ pre, pre <+: Go.Dr.upGo s n ∧ Jx pre C)) := by
  have hpa := Lib.hid (fun (m : Nat) (hm : m < 1024) W => callsIn_wide (n := 4).2 (parent_any m hm W))
  refine callsIn_of_wp Tryd.func84 rfl trivial ?_ rfl
  simp only [Tryd.ntmps84, List.size_toArray, List.length_cons, List.length_nil, Nat.reduceAdd, Nat.reduceSub, Array.replicate_succ, Array.replicate_zero, List.push_toArray, List.append_toArray, List.nil_append, List.cons_append]
  gi_wp2_with fail
  gi_loopw [] (fun wr => ∃ k : Nat, k ≤ s ∧ J ((Go.Dr.upGo s n).take k) wr ∧ Hid (Blk wr nb 110 [.int .i64 ((n / 2 ^ k : Nat) : Int)])) (fun wr => (intOf ((wr.cell? ⟨nb, 0, none⟩).getD .nilIface)).toNat)
  case atStart => exact ⟨0, Nat.zero_le _, h0, by rw [Nat.pow_zero, Nat.div_one]; exact hB⟩
  case round =>
    obtain ⟨k, hk, hJs, hI⟩ := hrel
    obtain ⟨m, hm⟩ : ∃ m, Hid (n / 2 ^ k = m) := ⟨_, rfl⟩
    rw [hm.out] at hI
    have c0 := hI.out.at_ (i := 0) rfl
    by_cases hlt : k < s
    · have hbig := Go.Dr.up_big hn hlt
      have hm2 : m < 1024 := by rw [← hm.out]; exact Nat.lt_of_le_of_lt (Nat.div_le_self _ _) hn2
      rw [hm.out] at hbig
      have hY1 := hY _ m _ hJs (by rw [List.length_take, Go.Dr.upGo_length]; omega) hm2
      unfold encN at hY1
      have htk : (Go.Dr.upGo s n).take k ++ [m] = (Go.Dr.upGo s n).take (k + 1) := by rw [Go.Dr.upGo_take hlt, hm.out]
      rw [htk] at hY1
      obtain ⟨fn, tmps, assign, body, hy, hR⟩ := hY1
      have hR' := Lib.hid hR
      have hg1 : decide ((1 : Int) < (m : Int)) = true := decide_eq_true (by omega)
      clear hR hJs
      gi_wp2_with fail
      refine hR'.out.mono ?_
      rintro e2 W3 (⟨rfl, hJ3, hk3⟩ | ⟨rfl, hJx3⟩)
      · have hB3 : Blk W3 nb 110 [.int .i64 (m : Int)] := (hk3.2 nb hnb hnz).trans hI.out
        have c3 := hB3.at_ (i := 0) (x := .int .i64 (m : Int)) rfl
        have f3 := hB3.frozen 0
        have hB4 := Lib.hid (hB3.set 0 (.int .i64 ((m / 2 : Nat) : Int)))
        have hJ4 : J ((Go.Dr.upGo s n).take (k + 1)) (W3.setCell ⟨nb, 0, none⟩ (.int .i64 ((m / 2 : Nat) : Int))) := hJ _ _ _ _ hJ3 (Lib.grownBy_setCell W3 nb 0 _) (fun r e => by cases e; rfl)
        have hpc := Lib.hid (hpa.out m hm2 W3)
        have hmd : Hid (n / 2 ^ (k + 1) = m / 2) := by show _ = _; rw [Nat.pow_succ, ← Nat.div_div_eq_div_mul, hm.out]
        have hdec : Hid ((intOf (((W3.setCell ⟨nb, 0, none⟩ (.int .i64 ((m / 2 : Nat) : Int))).cell? ⟨nb, 0, none⟩).getD .nilIface)).toNat < (intOf ((wr.cell? ⟨nb, 0, none⟩).getD .nilIface)).toNat) := by
          show _ < _
          rw [hB4.out.at_ (i := 0) rfl, c0]
          show (((m / 2 : Nat) : Int)).toNat < ((m : Int)).toNat
          omega
        obtain ⟨m2, hm2e⟩ : ∃ m2, Hid (m / 2 = m2) := ⟨_, rfl⟩
        rw [hm2e.out] at hB4 hJ4 hpc hmd hdec
        clear hR' hY hJ h0 hB hpa hJ3
        gi_wp2_with fail
        refine ⟨trivial, hpc.out.mono ?_⟩
        rintro e W5 ⟨rfl, rfl⟩
        gi_wp2_with fail
        refine ⟨⟨k + 1, by omega, hJ4, ?_⟩, hdec.out⟩
        rw [hmd.out]; exact hB4
      · gi_wp2_with fail
        refine bodyPost_end (results_none rfl _ _ _) rfl ?_
        exact ⟨⟨_, rfl⟩, .inr ⟨_, List.take_prefix _ _, hJx3⟩⟩
    · obtain rfl : k = s := by omega
      have hm1 : m = 1 := by rw [← hm.out]; exact hn
      subst hm1
      rw [show ((1 : Nat) : Int) = 1 from rfl] at c0
      have hJ4 : J (Go.Dr.upGo k n) wr := by rw [List.take_of_length_le (by rw [Go.Dr.upGo_length]; omega)] at hJs; exact hJs
      gi_wp2_with fail
      refine ⟨fun f h => (by cases h), ?_⟩
      go_at_K
      gi_wp2_with fail
      refine bodyPost_end (results_none rfl _ _ _) rfl ?_
      exact ⟨⟨_, rfl⟩, .inl ⟨_, rfl, hJ4⟩⟩
end Go.Proofs.YthnfjkgiaanmhaaDoor
