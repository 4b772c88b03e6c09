/- the references 02 and 04, plainly: padding at once, products and powers by halving; no program the references 03, 04: scalars, sums, products, powers the reference 02: words, blocks the reference 02: padded, Sum, Tagged -/
import Derived.Test.YtnonfdcbnkdmcaaGreatDoorAl
import Derived.Test.YtnonfdcbnkdmcaaGreatDoorShaPlain
import Derived.Test.YtnonfdcbnkdmcaaGreatDoorGrpPlain
import Derived.Test.YtnonfdcbnkdmcaaGreatDoorMem2
import Derived.Test.YtnonfdcbnkdmcaaGreatDoorFld
import Derived.Test.YtnonfdcbnkdmcaaGreatDoorGrp2
import Derived.Test.YtnonfdcbnkdmcaaGreatDoorAbs
import Derived.BigQuiet
import Derived.Deep.DeepCutAuto
import Derived.Deep.RegionHeld3
import Derived.Laws.Tables
import Derived.Great.BuildSlice
import Derived.IntWalk
import Derived.Test.YtnonfdcbnkdmcaaGreatDoorTag
namespace Sha
theorem blocks_add : ∀ (a b : Nat) (s : St) (l : List Nat), blocks (a + b) s l = blocks b (blocks a s l) (l.drop (64 * a))
 | 0, b, s, l => by simp [blocks]
 | a + 1, b, s, l => by
  rw [show a + 1 + b = (a + b) + 1 by omega, blocks, blocks, blocks_add a b, List.drop_drop, show 64 + 64 * a = 64 * (a + 1) by omega]
theorem blocks_front : ∀ (a : Nat) (s : St) (x y : List Nat), 64 * a ≤ x.length → blocks a s (x ++ y) = blocks a s x
 | 0, s, x, y, _ => rfl
 | a + 1, s, x, y, h => by
  rw [blocks, blocks, List.take_append_of_le_length (by omega), List.drop_append_of_le_length (by omega), blocks_front a _ _ _ (by rw [List.length_drop]; omega)]
def zeros (n : Nat) : Nat := (if n % 64 > 55 then 128 else 64) - 9 - n % 64
def padded (l : List Nat) : List Nat := l ++ [0x80] ++ List.replicate (zeros l.length) 0 ++ be 8 (8 * l.length)
theorem padded_eq (l : List Nat) : padded l = l.take (l.length / 64 * 64) ++ tail (l.drop (l.length / 64 * 64)) l.length := by
 unfold padded tail zeros
 rw [List.length_drop, show l.length - l.length / 64 * 64 = l.length % 64 by omega]
 simp only [← List.append_assoc, List.take_append_drop]
theorem zeros_mod (n : Nat) : (n + 1 + zeros n) % 64 = 56 := by unfold zeros; split <;> omega
theorem zeros_lt (n : Nat) : zeros n < 64 := by unfold zeros; split <;> omega
theorem zeros_least (n j : Nat) (h : j < zeros n) : (n + 1 + j) % 64 ≠ 56 := by unfold zeros at h; split at h <;> omega
theorem padded_length (l : List Nat) : (padded l).length = l.length + 1 + zeros l.length + 8 := by simp [padded, be_length]; omega
theorem padded_mod (l : List Nat) : (padded l).length % 64 = 0 := by rw [padded_length]; have := zeros_mod l.length; omega
theorem padded_lt (l : List Nat) (h : ∀ x ∈ l, x < 256) : ∀ x ∈ padded l, x < 256 := by
 intro x hx
 simp only [padded, List.mem_append, List.mem_singleton] at hx
 rcases hx with ((hx | hx) | hx) | hx
 · exact h x hx
 · omega
 · have := List.eq_of_mem_replicate hx; omega
 · exact be_lt _ _ x hx
theorem sum_padded (l : List Nat) : out (blocks ((padded l).length / 64) start (padded l)) = sum l := by
 unfold sum
 simp only []
 have h1 : l.length / 64 * 64 ≤ l.length := Nat.div_mul_le_self _ _
 have hl : (l.take (l.length / 64 * 64)).length = l.length / 64 * 64 := by rw [List.length_take]; omega
 rw [padded_eq]
 generalize hT : tail (l.drop (l.length / 64 * 64)) l.length = T
 rw [List.length_append, hl, show (l.length / 64 * 64 + T.length) / 64 = l.length / 64 + T.length / 64 by omega, blocks_add, blocks_front _ _ _ _ (by omega), List.drop_append_of_le_length (by omega), List.drop_of_length_le (by omega), List.nil_append]
 congr 2
 have := blocks_front (l.length / 64) start (l.take (l.length / 64 * 64)) (l.drop (l.length / 64 * 64)) (by omega)
 rw [List.take_append_drop] at this
 exact this.symm
/-! ### the other ways to write a round -/
theorem ror_or (x r : Nat) : x >>> r ||| (x <<< (32 - r)) % 4294967296 = ror x r := by unfold ror; exact Nat.or_comm _ _
theorem ch_or {e f g : Nat} (he : e < 4294967296) (hg : g < 4294967296) : (e &&& f) ^^^ ((4294967295 - e) &&& g) = ch e f g := by
 unfold ch
 apply Nat.eq_of_testBit_eq
 intro i
 simp only [Nat.testBit_xor, Nat.testBit_and]
 by_cases hi : i < 32
 · rw [show (4294967295 : Nat) - e = 2 ^ 32 - (e + 1) by omega, Nat.testBit_two_pow_sub_succ (by omega)]
   simp only [hi, decide_true, Bool.true_and]
   cases e.testBit i <;> cases f.testBit i <;> cases g.testBit i <;> rfl
 · have h1 : g.testBit i = false := Nat.testBit_lt_two_pow (Nat.lt_of_lt_of_le (show g < 2 ^ 32 from hg) (Nat.pow_le_pow_right (by omega) (by omega)))
   have h2 : e.testBit i = false := Nat.testBit_lt_two_pow (Nat.lt_of_lt_of_le (show e < 2 ^ 32 from he) (Nat.pow_le_pow_right (by omega) (by omega)))
   simp [h1, h2]
theorem not32 {e : Nat} (he : e < 4294967296) : 4294967295 ^^^ e = 4294967295 - e := by
 apply Nat.eq_of_testBit_eq
 intro i
 simp only [Nat.testBit_xor]
 by_cases hi : i < 32
 · rw [show (4294967295 : Nat) - e = 2 ^ 32 - (e + 1) by omega, Nat.testBit_two_pow_sub_succ (by omega), show (4294967295 : Nat) = 2 ^ 32 - 1 from rfl, Nat.testBit_two_pow_sub_one]
   simp only [hi, decide_true, Bool.true_and]
   cases e.testBit i <;> rfl
 · have h2 : e.testBit i = false := Nat.testBit_lt_two_pow (Nat.lt_of_lt_of_le (show e < 2 ^ 32 from he) (Nat.pow_le_pow_right (by omega) (by omega)))
   have h3 : (4294967295 - e).testBit i = false := Nat.testBit_lt_two_pow (Nat.lt_of_lt_of_le (show 4294967295 - e < 2 ^ 32 by omega) (Nat.pow_le_pow_right (by omega) (by omega)))
   rw [h2, h3, show (4294967295 : Nat) = 2 ^ 32 - 1 from rfl, Nat.testBit_two_pow_sub_one]
   simp [hi]
theorem maj_or {a b c : Nat} : ((a &&& b) ^^^ (a &&& c)) ^^^ (b &&& c) = maj a b c := by
 unfold maj
 apply Nat.eq_of_testBit_eq
 intro i
 simp only [Nat.testBit_xor, Nat.testBit_and, Nat.testBit_or]
 cases a.testBit i <;> cases b.testBit i <;> cases c.testBit i <;> rfl
end Sha
namespace Grp
theorem half_step {a b c m : Nat} : (c + a * b) % m = ((if b % 2 = 1 then (c + a) % m else c) + (a + a) % m * (b / 2)) % m := by
 have h := Nat.div_add_mod b 2
 split
 · rename_i h1
   rw [h1] at h
   conv => lhs; rw [← h]
   rw [Nat.add_mod ((c + a) % m), Nat.mod_mod, Nat.mul_mod ((a + a) % m), Nat.mod_mod, ← Nat.mul_mod, ← Nat.add_mod]
   congr 1
   rw [Nat.mul_add, Nat.mul_one, ← Nat.two_mul, Nat.mul_comm 2 a, Nat.mul_assoc]
   omega
 · rename_i h1
   have h0 : b % 2 = 0 := by omega
   rw [h0] at h
   conv => lhs; rw [← h]
   rw [Nat.add_mod c, Nat.add_mod c ((a + a) % m * (b / 2)), Nat.mul_mod ((a + a) % m), Nat.mod_mod, ← Nat.mul_mod]
   congr 3
   rw [Nat.add_zero, ← Nat.two_mul, Nat.mul_comm 2 a, Nat.mul_assoc]
theorem sum_if {a b m : Nat} (ha : a < m) (hb : b < m) : (a + b) % m = if m ≤ a + b then a + b - m else a + b := by
 split
 · rename_i h; rw [Nat.mod_eq_sub_mod h, Nat.mod_eq_of_lt (by omega)]
 · rename_i h; exact Nat.mod_eq_of_lt (by omega)
theorem pow_step {a c k : Nat} : c * a ^ k % P = (if k % 2 = 1 then c * a % P else c) * (a * a % P) ^ (k / 2) % P := by
 have h := Nat.div_add_mod k 2
 have e : (a * a) ^ (k / 2) = a ^ (2 * (k / 2)) := by rw [Nat.pow_mul, Nat.pow_two]
 split
 · rename_i h1
   rw [h1] at h
   rw [Nat.mul_mod (c * a % P), Nat.mod_mod, ← Nat.pow_mod, ← Nat.mul_mod, e]
   conv => lhs; rw [← h, Nat.pow_succ]
   congr 1
   rw [Nat.mul_comm (a ^ _) a, ← Nat.mul_assoc]
 · rename_i h1
   have h0 : k % 2 = 0 := by omega
   rw [h0] at h
   rw [Nat.mul_mod c ((a * a % P) ^ (k / 2)), ← Nat.pow_mod, ← Nat.mul_mod, e]
   conv => lhs; rw [← h, Nat.add_zero]
end Grp
namespace Go.Proofs.YtnonfdcbnkdmcaaGreatDoor
open Go.RowKit Go.Mem

set_option maxHeartbeats 400000 in
theorem r3scalar_any (a : Int) (w : World) : Calls Tryz.prog 151 #[.int .i64 a] w (fun e w' => e = .returned (.bool (!Fld.out a)) ∧ w' = w) := by
 by_cases h0 : 0 ≤ a
 · by_cases h1 : a < 2305843009213688669
   · have hr : Hid ((!Fld.out a) = true) := by show _ = _; simp [Fld.out]; omega
     have h1' : decide (a < 2305843009213688669) = true := by simpa using h1
     have h0' : decide (0 ≤ a) = true := by simpa using h0
     go_enter Tryz.func151, Tryz.ntmps151
     go_wp2_with fail
     go_ret
     exact ⟨by rw [hr.out]; rfl, rfl⟩
   · have hr : Hid ((!Fld.out a) = false) := by show _ = _; simp [Fld.out]; omega
     have h1' : decide (a < 2305843009213688669) = false := by simpa using h1
     have h0' : decide (0 ≤ a) = true := by simpa using h0
     go_enter Tryz.func151, Tryz.ntmps151
     go_wp2_with fail
     go_ret
     exact ⟨by rw [hr.out]; rfl, rfl⟩
 · have hr : Hid ((!Fld.out a) = false) := by show _ = _; simp [Fld.out]; omega
   have h0' : decide (0 ≤ a) = false := by simpa using h0
   go_enter Tryz.func151, Tryz.ntmps151
   go_wp2_with fail
   go_ret
   exact ⟨by rw [hr.out]; rfl, rfl⟩

set_option maxHeartbeats 400000 in
theorem r3sum_any (a b : Nat) (ha : a < 2305843009213688669) (hb : b < 2305843009213688669) (w : World) : Calls Tryz.prog 178 #[.int .i64 (a : Int), .int .i64 (b : Int)] w (fun e w' => e = .returned (.int .i64 (((a + b) % 2305843009213688669 : Nat) : Int)) ∧ w' = w) := by
 go_enter Tryz.func178, Tryz.ntmps178
 go_wp2_with fail
 go_ret
 exact ⟨by congr 2, rfl⟩

set_option maxHeartbeats 400000 in
theorem r4sum_any (a b m : Nat) (ha : a < m) (hb : b < m) (hm : m ≤ 4611686018427387904) (w : World) : Calls Tryz.prog 209 #[.int .i64 (a : Int), .int .i64 (b : Int), .int .i64 (m : Int)] w (fun e w' => e = .returned (.int .i64 (((a + b) % m : Nat) : Int)) ∧ w' = w) := by
 rw [Grp.sum_if ha hb]
 by_cases h : m ≤ a + b
 · rw [if_pos h]
   have h' : decide ((m : Int) ≤ (a : Int) + (b : Int)) = true := by simp; omega
   have hr : Hid ((a : Int) + (b : Int) - (m : Int) = ((a + b - m : Nat) : Int)) := by show _ = _; omega
   go_enter Tryz.func209, Tryz.ntmps209
   go_wp2_with fail
   go_ret
   exact ⟨by rw [← hr.out]; rfl, rfl⟩
 · rw [if_neg h]
   have h' : decide ((m : Int) ≤ (a : Int) + (b : Int)) = false := by simp; omega
   go_enter Tryz.func209, Tryz.ntmps209
   go_wp2_with fail
   go_ret
   exact ⟨by congr 2, rfl⟩

set_option maxHeartbeats 1000000 in
theorem r3product_any (a b : Nat) (ha : a < 2305843009213688669) (hb : b < 2305843009213688669) (w : World) : Calls Tryz.prog 177 #[.int .i64 (a : Int), .int .i64 (b : Int)] w (fun e w' => e = .returned (.int .i64 ((a * b % 2305843009213688669 : Nat) : Int)) ∧ w' = w) := by
 obtain ⟨R, hR⟩ : ∃ R, Hid (a * b % 2305843009213688669 = R) := ⟨_, rfl⟩
 rw [hR.out]
 go_enter Tryz.func177, Tryz.ntmps177
 go_wp2_with fail
 go_loopw [0, 1, 5] (fun av bv cv wr => ∃ x y z : Nat, av = .int .i64 (x : Int) ∧ bv = .int .i64 (y : Int) ∧ cv = .int .i64 (z : Int) ∧ x < 2305843009213688669 ∧ y ≤ b ∧ z < 2305843009213688669 ∧ Hid ((z + x * y) % 2305843009213688669 = R) ∧ wr = w) (fun _ bv _ _ => (intOf bv).toNat)
 case atStart => exact ⟨a, b, 0, rfl, rfl, rfl, ha, Nat.le_refl _, by omega, by show _ = _; rw [Nat.zero_add]; exact hR.out, rfl⟩
 case round =>
  obtain ⟨x, y, z, rfl, rfl, rfl, hx, hy, hz, hI, rfl⟩ := hrel
  by_cases h0 : 0 < y
  · have h0' : decide (0 < (y : Int)) = true := by simpa using h0
    have hI' := hI.out
    rw [Grp.half_step] at hI'
    have hxx : (x + x) % 2305843009213688669 < 2305843009213688669 := Nat.mod_lt _ (by omega)
    have hsx := Lib.hid (r3sum_any x x  hx hx wr)
    obtain ⟨h, hh⟩ : ∃ h, Hid (y / 2 = h) := ⟨_, rfl⟩
    have hh' := hh.out
    have hy2 : (y : Int) / 2 = (h : Int) := by omega
    have hyd : Int.tdiv (y : Int) 2 = (h : Int) := by rw [Int.tdiv_eq_ediv_of_nonneg (by omega)]; omega
    have hhy : Hid (h ≤ b ∧ h < y) := by show _ ∧ _; omega
    rw [hh'] at hI'
    clear hh'
    have hyb : (y : Int) < 4611686018427387904 := by omega
    by_cases h1 : y % 2 = 1
    · rw [if_pos h1] at hI'
      have hI2 := Lib.hid hI'
      have hzx : (z + x) % 2305843009213688669 < 2305843009213688669 := Nat.mod_lt _ (by omega)
      have hsz := Lib.hid (r3sum_any z x  hz hx wr)
      have ht : Int.tmod (y : Int) 2 = 1 := by rw [Int.tmod_eq_emod_of_nonneg (by omega)]; omega
      generalize (z + x) % 2305843009213688669 = z2 at *
      generalize (x + x) % 2305843009213688669 = x2 at *
      clear hI hI'
      go_wp2_with fail
      refine hsz.out.mono ?_
      rintro e W1 ⟨rfl, rfl⟩
      go_wp2_with fail
      refine hsx.out.mono ?_
      rintro e W1 ⟨rfl, rfl⟩
      go_wp2_with fail
      go_roundw
      case rel => exact ⟨x2, h, z2, rfl, rfl, rfl, hxx, hhy.out.1, hzx, hI2, trivial⟩
      case measure => have := hhy.out.2; simp [intOf]; omega
    · rw [if_neg h1] at hI'
      have hI2 := Lib.hid hI'
      have ht : Int.tmod (y : Int) 2 = 0 := by rw [Int.tmod_eq_emod_of_nonneg (by omega)]; omega
      generalize (x + x) % 2305843009213688669 = x2 at *
      clear hI hI'
      go_wp2_with fail
      refine hsx.out.mono ?_
      rintro e W1 ⟨rfl, rfl⟩
      go_wp2_with fail
      go_roundw
      case rel => exact ⟨x2, h, z, rfl, rfl, rfl, hxx, hhy.out.1, hz, hI2, trivial⟩
      case measure => have := hhy.out.2; simp [intOf]; omega
  · obtain rfl : y = 0 := by omega
    have hI' := hI.out
    rw [Nat.mul_zero, Nat.add_zero, Nat.mod_eq_of_lt hz] at hI'
    subst hI'
    go_wp2_with fail
    go_ret
    exact ⟨rfl, rfl⟩

set_option maxHeartbeats 1000000 in
theorem r4product_any (a b m : Nat) (ha : a < m) (hb : b < 4611686018427387904) (hm : m ≤ 4611686018427387904) (w : World) : Calls Tryz.prog 183 #[.int .i64 (a : Int), .int .i64 (b : Int), .int .i64 (m : Int)] w (fun e w' => e = .returned (.int .i64 ((a * b % m : Nat) : Int)) ∧ w' = w) := by
 obtain ⟨R, hR⟩ : ∃ R, Hid (a * b % m = R) := ⟨_, rfl⟩
 rw [hR.out]
 go_enter Tryz.func183, Tryz.ntmps183
 go_wp2_with fail
 go_loopw [0, 1, 7] (fun av bv cv wr => ∃ x y z : Nat, av = .int .i64 (x : Int) ∧ bv = .int .i64 (y : Int) ∧ cv = .int .i64 (z : Int) ∧ x < m ∧ y ≤ b ∧ z < m ∧ Hid ((z + x * y) % m = R) ∧ wr = w) (fun _ bv _ _ => (intOf bv).toNat)
 case atStart => exact ⟨a, b, 0, rfl, rfl, rfl, ha, Nat.le_refl _, by omega, by show _ = _; rw [Nat.zero_add]; exact hR.out, rfl⟩
 case round =>
  obtain ⟨x, y, z, rfl, rfl, rfl, hx, hy, hz, hI, rfl⟩ := hrel
  by_cases h0 : 0 < y
  · have h0' : decide (0 < (y : Int)) = true := by simpa using h0
    have hI' := hI.out
    rw [Grp.half_step] at hI'
    have hxx : (x + x) % m < m := Nat.mod_lt _ (by omega)
    have hsx := Lib.hid (r4sum_any x x m hx hx hm wr)
    obtain ⟨h, hh⟩ : ∃ h, Hid (y / 2 = h) := ⟨_, rfl⟩
    have hh' := hh.out
    have hy2 : (y : Int) / 2 = (h : Int) := by omega
    have hyd : Int.tdiv (y : Int) 2 = (h : Int) := by rw [Int.tdiv_eq_ediv_of_nonneg (by omega)]; omega
    have hhy : Hid (h ≤ b ∧ h < y) := by show _ ∧ _; omega
    rw [hh'] at hI'
    clear hh'
    have hyb : (y : Int) < 4611686018427387904 := by omega
    by_cases h1 : y % 2 = 1
    · rw [if_pos h1] at hI'
      have hI2 := Lib.hid hI'
      have hzx : (z + x) % m < m := Nat.mod_lt _ (by omega)
      have hsz := Lib.hid (r4sum_any z x m hz hx hm wr)
      have ht : Int.tmod (y : Int) 2 = 1 := by rw [Int.tmod_eq_emod_of_nonneg (by omega)]; omega
      generalize (z + x) % m = z2 at *
      generalize (x + x) % m = x2 at *
      clear hI hI'
      go_wp2_with fail
      refine hsz.out.mono ?_
      rintro e W1 ⟨rfl, rfl⟩
      go_wp2_with fail
      refine hsx.out.mono ?_
      rintro e W1 ⟨rfl, rfl⟩
      go_wp2_with fail
      go_roundw
      case rel => exact ⟨x2, h, z2, rfl, rfl, rfl, hxx, hhy.out.1, hzx, hI2, trivial⟩
      case measure => have := hhy.out.2; simp [intOf]; omega
    · rw [if_neg h1] at hI'
      have hI2 := Lib.hid hI'
      have ht : Int.tmod (y : Int) 2 = 0 := by rw [Int.tmod_eq_emod_of_nonneg (by omega)]; omega
      generalize (x + x) % m = x2 at *
      clear hI hI'
      go_wp2_with fail
      refine hsx.out.mono ?_
      rintro e W1 ⟨rfl, rfl⟩
      go_wp2_with fail
      go_roundw
      case rel => exact ⟨x2, h, z, rfl, rfl, rfl, hxx, hhy.out.1, hz, hI2, trivial⟩
      case measure => have := hhy.out.2; simp [intOf]; omega
  · obtain rfl : y = 0 := by omega
    have hI' := hI.out
    rw [Nat.mul_zero, Nat.add_zero, Nat.mod_eq_of_lt hz] at hI'
    subst hI'
    go_wp2_with fail
    go_ret
    exact ⟨rfl, rfl⟩

set_option maxHeartbeats 1000000 in
theorem r4power_any (a k : Nat) (ha : a < Grp.P) (hk : k < 4611686018427387904) (w : World) : Calls Tryz.prog 181 #[.int .i64 (a : Int), .int .i64 (k : Int)] w (fun e w' => e = .returned (.int .i64 ((Grp.pw a k : Nat) : Int)) ∧ w' = w) := by
 obtain ⟨R, hR⟩ : ∃ R, Hid (Grp.pw a k = R) := ⟨_, rfl⟩
 have h00 : Hid (1 * a ^ k % Grp.P = R) := by show _ = _; rw [Nat.one_mul]; exact hR.out
 rw [hR.out]
 have hpr := Lib.hid (fun (x y : Nat) (hx : x < Grp.P) (hy : y < Grp.P) => r4product_any x y Grp.P hx (Nat.lt_trans hy (by decide)) (by decide))
 have hcast : ((Grp.P : Nat) : Int) = 4611686018427377339 := rfl
 rw [hcast] at hpr
 have hmod : ∀ n, n % Grp.P < Grp.P := fun n => Nat.mod_lt _ Grp.P_pos
 have h1P : 1 < Grp.P := Grp.P_one
 have hst := Lib.hid (fun x z y => @Grp.pow_step x z y)
 generalize hP : Grp.P = M at *
 clear hR hcast hP
 go_enter Tryz.func181, Tryz.ntmps181
 go_wp2_with fail
 go_loopw [0, 1, 5] (fun av bv cv wr => ∃ x y z : Nat, av = .int .i64 (x : Int) ∧ bv = .int .i64 (y : Int) ∧ cv = .int .i64 (z : Int) ∧ x < M ∧ y ≤ k ∧ z < M ∧ Hid (z * x ^ y % M = R) ∧ wr = w) (fun _ bv _ _ => (intOf bv).toNat)
 case atStart => exact ⟨a, k, 1, rfl, rfl, rfl, ha, Nat.le_refl _, h1P, h00, rfl⟩
 case round =>
  obtain ⟨x, y, z, rfl, rfl, rfl, hx, hy, hz, hI, rfl⟩ := hrel
  by_cases h0 : 0 < y
  · have h0' : decide (0 < (y : Int)) = true := by simpa using h0
    have hI' := hI.out
    rw [hst.out] at hI'
    have hxx := hmod (x * x)
    have hsx := Lib.hid (hpr.out x x hx hx wr)
    obtain ⟨h, hh⟩ : ∃ h, Hid (y / 2 = h) := ⟨_, rfl⟩
    have hh' := hh.out
    have hy2 : (y : Int) / 2 = (h : Int) := by omega
    have hyd : Int.tdiv (y : Int) 2 = (h : Int) := by rw [Int.tdiv_eq_ediv_of_nonneg (by omega)]; omega
    have hhy : Hid (h ≤ k ∧ h < y) := by show _ ∧ _; omega
    rw [hh'] at hI'
    clear hh'
    have hyb : (y : Int) < 4611686018427387904 := by omega
    by_cases h1 : y % 2 = 1
    · rw [if_pos h1] at hI'
      have hI2 := Lib.hid hI'
      have hzx := hmod (z * x)
      have hsz := Lib.hid (hpr.out z x hz hx wr)
      have ht : Int.tmod (y : Int) 2 = 1 := by rw [Int.tmod_eq_emod_of_nonneg (by omega)]; omega
      generalize (z * x) % M = z2 at *
      generalize (x * x) % M = x2 at *
      clear hI hI' hst hpr
      go_wp2_with fail
      refine hsz.out.mono ?_
      rintro e W1 ⟨rfl, rfl⟩
      go_wp2_with fail
      refine hsx.out.mono ?_
      rintro e W1 ⟨rfl, rfl⟩
      go_wp2_with fail
      go_roundw
      case rel => exact ⟨x2, h, z2, rfl, rfl, rfl, hxx, hhy.out.1, hzx, hI2, trivial⟩
      case measure => have := hhy.out.2; simp [intOf]; omega
    · rw [if_neg h1] at hI'
      have hI2 := Lib.hid hI'
      have ht : Int.tmod (y : Int) 2 = 0 := by rw [Int.tmod_eq_emod_of_nonneg (by omega)]; omega
      generalize (x * x) % M = x2 at *
      clear hI hI' hst hpr
      go_wp2_with fail
      refine hsx.out.mono ?_
      rintro e W1 ⟨rfl, rfl⟩
      go_wp2_with fail
      go_roundw
      case rel => exact ⟨x2, h, z, rfl, rfl, rfl, hxx, hhy.out.1, hz, hI2, trivial⟩
      case measure => have := hhy.out.2; simp [intOf]; omega
  · obtain rfl : y = 0 := by omega
    have hI' := hI.out
    rw [Nat.pow_zero, Nat.mul_one, Nat.mod_eq_of_lt hz] at hI'
    subst hI'
    go_wp2_with fail
    go_ret
    exact ⟨rfl, rfl⟩

theorem r4scalar_any (a : Int) (w : World) : Calls Tryz.prog 182 #[.int .i64 a] w (fun e w' => e = .returned (.bool (!Fld.out a)) ∧ w' = w) := by
 by_cases h0 : 0 ≤ a
 · by_cases h1 : a < 2305843009213688669
   · have hr : Hid ((!Fld.out a) = true) := by show _ = _; simp [Fld.out]; omega
     have h1' : decide (a < 2305843009213688669) = true := by simpa using h1
     have h0' : decide (0 ≤ a) = true := by simpa using h0
     go_enter Tryz.func182, Tryz.ntmps182
     go_wp2_with fail
     go_ret
     exact ⟨by rw [hr.out]; rfl, rfl⟩
   · have hr : Hid ((!Fld.out a) = false) := by show _ = _; simp [Fld.out]; omega
     have h1' : decide (a < 2305843009213688669) = false := by simpa using h1
     have h0' : decide (0 ≤ a) = true := by simpa using h0
     go_enter Tryz.func182, Tryz.ntmps182
     go_wp2_with fail
     go_ret
     exact ⟨by rw [hr.out]; rfl, rfl⟩
 · have hr : Hid ((!Fld.out a) = false) := by show _ = _; simp [Fld.out]; omega
   have h0' : decide (0 ≤ a) = false := by simpa using h0
   go_enter Tryz.func182, Tryz.ntmps182
   go_wp2_with fail
   go_ret
   exact ⟨by rw [hr.out]; rfl, rfl⟩

def RetQ (v : Value) (w : World) (e : Ending) (w' : World) : Prop := e = .returned v ∧ w' = w

set_option maxHeartbeats 1000000 in
theorem r4check_any (a : Int) (w : World) : Calls Tryz.prog 150 #[.int .i64 a] w (RetQ (.int .i64 (Grp.chk a)) w) := by
 by_cases h1 : a < 1
 · have hr : Hid (Grp.chk a = 40) := Grp.chk_f (by simp [Grp.ok]; omega)
   have h1' : decide (a < 1) = true := by simpa using h1
   go_enter Tryz.func150, Tryz.ntmps150
   go_wp2_with fail
   go_ret
   exact ⟨by rw [hr.out]; rfl, rfl⟩
 · by_cases h2 : 4611686018427377339 ≤ a
   · have hr : Hid (Grp.chk a = 40) := Grp.chk_f (by simp [Grp.ok]; omega)
     have h1' : decide (a < 1) = false := by simpa using h1
     have h2' : decide (4611686018427377339 ≤ a) = true := by simpa using h2
     go_enter Tryz.func150, Tryz.ntmps150
     go_wp2_with fail
     go_ret
     exact ⟨by rw [hr.out]; rfl, rfl⟩
   · obtain ⟨n, rfl⟩ := Int.eq_ofNat_of_zero_le (show 0 ≤ a by omega)
     have h1' : decide ((n : Int) < 1) = false := by simpa using h1
     have h2' : decide ((4611686018427377339 : Int) ≤ (n : Int)) = false := by simpa using h2
     have hp := r4power_any n Grp.Q (by unfold Grp.P; omega) (by decide) w
     obtain ⟨v, hv⟩ : ∃ v, Hid (Grp.pw n Grp.Q = v) := ⟨_, rfl⟩
     rw [hv.out] at hp
     have hp' : Hid (Calls Tryz.prog 181 #[.int .i64 (n : Int), .int .i64 2305843009213688669] w (RetQ (.int .i64 (v : Int)) w)) := Lib.hid hp
     have hn : (n : Int) ≤ 4611686018427377338 := by omega
     have hn0 : (0 : Int) ≤ (n : Int) := by omega
     by_cases e : v = 1
     · have hr : Hid (Grp.chk (n : Int) = 0) := Grp.chk_t (by unfold Grp.ok; rw [Int.toNat_natCast, hv.out]; simp [e]; omega)
       have e' : ((v : Int) != 1) = false := by simp [e]
       clear hp h1 h2 e
       go_enter Tryz.func150, Tryz.ntmps150
       go_wp2_with fail
       refine (Hid.out hp').mono ?_
       rintro e w' ⟨rfl, rfl⟩
       go_wp2_with fail
       go_ret
       exact ⟨by rw [hr.out]; rfl, rfl⟩
     · have hr : Hid (Grp.chk (n : Int) = 40) := Grp.chk_f (by unfold Grp.ok; rw [Int.toNat_natCast, hv.out]; simp [e])
       have e' : ((v : Int) != 1) = true := by simp; omega
       clear hp h1 h2 e
       go_enter Tryz.func150, Tryz.ntmps150
       go_wp2_with fail
       refine (Hid.out hp').mono ?_
       rintro e w' ⟨rfl, rfl⟩
       go_wp2_with fail
       go_ret
       exact ⟨by rw [hr.out]; rfl, rfl⟩
def RetQQ (v : Int × Int) (w : World) (e : Ending) (w' : World) : Prop := e = .returned (.tuple #[.int .i64 v.1, .int .i64 v.2]) ∧ w' = w

set_option maxHeartbeats 1000000 in
theorem r4exp_any (a k : Int) (w : World) : Calls Tryz.prog 152 #[.int .i64 a, .int .i64 k] w (RetQQ (Grp.exp a k) w) := by
 have hsc := Lib.hid (r4scalar_any k w)
 have hck := Lib.hid (r4check_any a w)
 by_cases ha : Grp.ok a = true
 · have hc := Grp.chk_t ha
   rw [hc] at hck
   by_cases hk : 0 ≤ k ∧ k < 2305843009213688669
   · obtain ⟨m, rfl⟩ := Int.eq_ofNat_of_zero_le hk.1
     obtain ⟨n, rfl, n1, n2, _⟩ := Grp.ok_cast ha
     obtain ⟨v, hv⟩ : ∃ v, Hid (Grp.pw n m = v) := ⟨_, rfl⟩
     have hr : Hid (Grp.exp (n : Int) (m : Int) = ((v : Int), 0)) := by show _ = _; simp only [Grp.exp, ha, if_true, if_pos hk, Int.toNat_natCast, hv.out]
     have hp := r4power_any n m n2 (by omega) w
     rw [hv.out] at hp
     have hp' := Lib.hid hp
     have ho : (!Fld.out (m : Int)) = true := by simp [Fld.out]; omega
     rw [ho] at hsc
     clear hp ha hk hc ho hv
     go_enter Tryz.func152, Tryz.ntmps152
     go_wp2_with fail
     refine hck.out.mono ?_
     rintro e w1 ⟨rfl, rfl⟩
     go_wp2_with fail
     refine hsc.out.mono ?_
     rintro e w1 ⟨rfl, rfl⟩
     go_wp2_with fail
     refine hp'.out.mono ?_
     rintro e w2 ⟨rfl, rfl⟩
     go_wp2_with fail
     go_ret2
     exact ⟨by rw [hr.out]; rfl, rfl⟩
   · have hr : Hid (Grp.exp a k = (0, 1)) := by show _ = _; simp only [Grp.exp, ha, if_true, if_neg hk]
     have ho : (!Fld.out k) = false := by simp [Fld.out]; omega
     rw [ho] at hsc
     clear ha hk hc ho
     go_enter Tryz.func152, Tryz.ntmps152
     go_wp2_with fail
     refine hck.out.mono ?_
     rintro e w1 ⟨rfl, rfl⟩
     go_wp2_with fail
     refine hsc.out.mono ?_
     rintro e w1 ⟨rfl, rfl⟩
     go_wp2_with fail
     go_ret2
     exact ⟨by rw [hr.out]; rfl, rfl⟩
 · have ha' : Grp.ok a = false := by simpa using ha
   have hc := Grp.chk_f ha'
   rw [hc] at hck
   have hr : Hid (Grp.exp a k = (0, 40)) := by show _ = _; simp [Grp.exp, ha']
   clear ha ha' hc
   go_enter Tryz.func152, Tryz.ntmps152
   go_wp2_with fail
   refine hck.out.mono ?_
   rintro e w1 ⟨rfl, rfl⟩
   go_wp2_with fail
   go_ret2
   exact ⟨by rw [hr.out]; rfl, rfl⟩

set_option maxHeartbeats 1000000 in
theorem r4base_any (k : Int) (w : World) : Calls Tryz.prog 138 #[.int .i64 k] w (RetQQ (Grp.exp 4 k) w) := by
 obtain ⟨r, hr⟩ : ∃ r, Hid (Grp.exp 4 k = r) := ⟨_, rfl⟩
 have h := r4exp_any 4 k w
 rw [hr.out] at h ⊢
 have h' := Lib.hid h
 clear h
 go_enter Tryz.func138, Tryz.ntmps138
 go_wp2_with fail
 refine h'.out.mono ?_
 rintro e w1 ⟨rfl, rfl⟩
 go_wp2_with fail
 go_ret2
 exact ⟨rfl, rfl⟩

set_option maxHeartbeats 1000000 in
theorem r3mul_any (a b : Int) (w : World) : Calls Tryz.prog 139 #[.int .i64 a, .int .i64 b] w (RetQQ (Fld.mul a b) w) := by
 have hsa := Lib.hid (r3scalar_any a w)
 have hsb := Lib.hid (r3scalar_any b w)
 cases ha : Fld.out a with
 | true =>
  have hr : Hid (Fld.mul a b = (0, 1)) := by show _ = _; simp [Fld.mul, ha]
  rw [ha] at hsa
  clear ha
  go_enter Tryz.func139, Tryz.ntmps139
  go_wp2_with fail
  refine hsa.out.mono ?_
  rintro e w1 ⟨rfl, rfl⟩
  go_wp2_with fail
  go_ret2
  exact ⟨by rw [hr.out]; rfl, rfl⟩
 | false =>
  cases hb : Fld.out b with
  | true =>
   have hr : Hid (Fld.mul a b = (0, 1)) := by show _ = _; simp [Fld.mul, ha, hb]
   rw [ha] at hsa
   rw [hb] at hsb
   clear ha hb
   go_enter Tryz.func139, Tryz.ntmps139
   go_wp2_with fail
   refine hsa.out.mono ?_
   rintro e w1 ⟨rfl, rfl⟩
   go_wp2_with fail
   refine hsb.out.mono ?_
   rintro e w1 ⟨rfl, rfl⟩
   go_wp2_with fail
   go_ret2
   exact ⟨by rw [hr.out]; rfl, rfl⟩
  | false =>
   have a1 : 0 ≤ a ∧ a < 2305843009213688669 := by simp [Fld.out] at ha; omega
   have b1 : 0 ≤ b ∧ b < 2305843009213688669 := by simp [Fld.out] at hb; omega
   obtain ⟨n, rfl⟩ := Int.eq_ofNat_of_zero_le a1.1
   obtain ⟨m, rfl⟩ := Int.eq_ofNat_of_zero_le b1.1
   have hp := r3product_any n m (by omega) (by omega) w
   obtain ⟨v, hv⟩ : ∃ v, Hid ((n * m) % 2305843009213688669 = v) := ⟨_, rfl⟩
   rw [hv.out] at hp
   have hp' := Lib.hid hp
   have hr : Hid (Fld.mul (n : Int) (m : Int) = ((v : Int), 0)) := by show _ = _; rw [← hv.out]; simp [Fld.mul, ha, hb]
   rw [ha] at hsa
   rw [hb] at hsb
   clear hp ha hb a1 b1 hv
   go_enter Tryz.func139, Tryz.ntmps139
   go_wp2_with fail
   refine hsa.out.mono ?_
   rintro e w1 ⟨rfl, rfl⟩
   go_wp2_with fail
   refine hsb.out.mono ?_
   rintro e w1 ⟨rfl, rfl⟩
   go_wp2_with fail
   refine hp'.out.mono ?_
   rintro e w1 ⟨rfl, rfl⟩
   go_wp2_with fail
   go_ret2
   exact ⟨by rw [hr.out]; rfl, rfl⟩

set_option maxHeartbeats 1000000 in
theorem r3add_any (a b : Int) (w : World) : Calls Tryz.prog 141 #[.int .i64 a, .int .i64 b] w (RetQQ (Fld.add a b) w) := by
 have hsa := Lib.hid (r3scalar_any a w)
 have hsb := Lib.hid (r3scalar_any b w)
 cases ha : Fld.out a with
 | true =>
  have hr : Hid (Fld.add a b = (0, 1)) := by show _ = _; simp [Fld.add, ha]
  rw [ha] at hsa
  clear ha
  go_enter Tryz.func141, Tryz.ntmps141
  go_wp2_with fail
  refine hsa.out.mono ?_
  rintro e w1 ⟨rfl, rfl⟩
  go_wp2_with fail
  go_ret2
  exact ⟨by rw [hr.out]; rfl, rfl⟩
 | false =>
  cases hb : Fld.out b with
  | true =>
   have hr : Hid (Fld.add a b = (0, 1)) := by show _ = _; simp [Fld.add, ha, hb]
   rw [ha] at hsa
   rw [hb] at hsb
   clear ha hb
   go_enter Tryz.func141, Tryz.ntmps141
   go_wp2_with fail
   refine hsa.out.mono ?_
   rintro e w1 ⟨rfl, rfl⟩
   go_wp2_with fail
   refine hsb.out.mono ?_
   rintro e w1 ⟨rfl, rfl⟩
   go_wp2_with fail
   go_ret2
   exact ⟨by rw [hr.out]; rfl, rfl⟩
  | false =>
   have a1 : 0 ≤ a ∧ a < 2305843009213688669 := by simp [Fld.out] at ha; omega
   have b1 : 0 ≤ b ∧ b < 2305843009213688669 := by simp [Fld.out] at hb; omega
   obtain ⟨n, rfl⟩ := Int.eq_ofNat_of_zero_le a1.1
   obtain ⟨m, rfl⟩ := Int.eq_ofNat_of_zero_le b1.1
   have hp := r3sum_any n m (by omega) (by omega) w
   obtain ⟨v, hv⟩ : ∃ v, Hid ((n + m) % 2305843009213688669 = v) := ⟨_, rfl⟩
   rw [hv.out] at hp
   have hp' := Lib.hid hp
   have hr : Hid (Fld.add (n : Int) (m : Int) = ((v : Int), 0)) := by show _ = _; rw [← hv.out]; simp [Fld.add, ha, hb]
   rw [ha] at hsa
   rw [hb] at hsb
   clear hp ha hb a1 b1 hv
   go_enter Tryz.func141, Tryz.ntmps141
   go_wp2_with fail
   refine hsa.out.mono ?_
   rintro e w1 ⟨rfl, rfl⟩
   go_wp2_with fail
   refine hsb.out.mono ?_
   rintro e w1 ⟨rfl, rfl⟩
   go_wp2_with fail
   refine hp'.out.mono ?_
   rintro e w1 ⟨rfl, rfl⟩
   go_wp2_with fail
   go_ret2
   exact ⟨by rw [hr.out]; rfl, rfl⟩
end Go.Proofs.YtnonfdcbnkdmcaaGreatDoor
namespace Go.Proofs.YtnonfdcbnkdmcaaGreatDoor
open Go.RowKit Go.Mem

def RetD (v : Value) (w : World) (e : Ending) (w' : World) : Prop := e = .returned v ∧ ∃ m, w' = w.drewN m

set_option maxHeartbeats 400000 in
theorem r2ror_any (x r : Nat) (hx : x < 4294967296) (h0 : 0 < r) (hr : r < 32) (w : World) : Calls Tryz.prog 220 #[.int .u32 (x : Int), .int .i64 (r : Int)] w (RetD (.int .u32 ((Sha.ror x r : Nat) : Int)) w) := by
 have hr0 : (0 : Int) ≤ (r : Int) := by omega
 have hr1 : (r : Int) < 32 := by omega
 have hv : Hid (bits .or .u32 ((x : Int) / 2 ^ r) ((x : Int) * 2 ^ (32 - r) % 4294967296) = ((Sha.ror x r : Nat) : Int)) := by
  show _ = _
  have e1 : (x : Int) / 2 ^ r = ((x / 2 ^ r : Nat) : Int) := by rw [Int.natCast_ediv, Int.natCast_pow]; rfl
  have e2 : (x : Int) * 2 ^ (32 - r) % 4294967296 = ((x * 2 ^ (32 - r) % 4294967296 : Nat) : Int) := by rw [Int.natCast_emod, Int.natCast_mul, Int.natCast_pow]; rfl
  rw [e1, e2, u32_or_nat _ _ (Nat.lt_of_le_of_lt (Nat.div_le_self _ _) hx) (Nat.mod_lt _ (by decide)), ← Nat.shiftRight_eq_div_pow, ← Nat.shiftLeft_eq, Sha.ror_or]
 go_enter Tryz.func220, Tryz.ntmps220
 go_wp2_with fail
 go_quiet (fail)
 go_wp2_with fail
 go_ret
 refine ⟨?_, _, rfl⟩
 rw [← hv.out]
 rfl

theorem or_shift {a b k : Nat} (hb : b < 2 ^ k) : a * 2 ^ k ||| b = a * 2 ^ k + b := by
 have := Nat.shiftLeft_add_eq_or_of_lt (i := k) (b := b) hb a
 rw [Nat.shiftLeft_eq] at this
 exact this.symm

set_option maxHeartbeats 1000000 in
theorem r2word_any (b off c : Nat) (l : List Nat) (w : World) (H : ∀ (i : Nat) x, l[i]? = some x → w.cell? ⟨b, off + i, none⟩ = some (.int .u8 (x : Int))) (hl : l.length = 4) (hlt : ∀ x ∈ l, x < 256) (_hc : 4 ≤ c) :
 Calls Tryz.prog 219 #[.slice (some ⟨b, off, none⟩) 4 c] w (RetD (.int .u32 ((valB l : Nat) : Int)) w) := by
 match l, hl with
 | [p, q, r, s], _ =>
  simp only [List.mem_cons, List.not_mem_nil, or_false, forall_eq_or_imp, forall_eq] at hlt
  obtain ⟨hp, hq, hr, hs⟩ := hlt
  have c0 := H 0 p rfl
  have c1 := H 1 q rfl
  have c2 := H 2 r rfl
  have c3 := H 3 s rfl
  rw [Nat.add_zero] at c0
  have e1 : bits .or .u32 ((p : Int) * 16777216) ((q : Int) * 65536) = ((p * 16777216 + q * 65536 : Nat) : Int) := by
   have := u32_or_nat (p * 16777216) (q * 65536) (by omega) (by omega)
   rw [show p * 16777216 = p * 2 ^ 24 from rfl, or_shift (by omega)] at this
   exact this
  have e2 : bits .or .u32 ((p * 16777216 + q * 65536 : Nat) : Int) ((r : Int) * 256) = ((p * 16777216 + q * 65536 + r * 256 : Nat) : Int) := by
   have := u32_or_nat (p * 16777216 + q * 65536) (r * 256) (by omega) (by omega)
   rw [show p * 16777216 + q * 65536 = (p * 256 + q) * 2 ^ 16 by omega, or_shift (by omega)] at this
   rw [show p * 16777216 + q * 65536 = (p * 256 + q) * 2 ^ 16 by omega]
   exact this
  have e3 : bits .or .u32 ((p * 16777216 + q * 65536 + r * 256 : Nat) : Int) (s : Int) = ((p * 16777216 + q * 65536 + r * 256 + s : Nat) : Int) := by
   have := u32_or_nat (p * 16777216 + q * 65536 + r * 256) s (by omega) (by omega)
   rw [show p * 16777216 + q * 65536 + r * 256 = (p * 65536 + q * 256 + r) * 2 ^ 8 by omega, or_shift (by omega)] at this
   rw [show p * 16777216 + q * 65536 + r * 256 = (p * 65536 + q * 256 + r) * 2 ^ 8 by omega]
   exact this
  have hv : Hid (valB [p, q, r, s] = p * 16777216 + q * 65536 + r * 256 + s) := by show _ = _; simp only [valB, List.foldl_cons, List.foldl_nil]; omega
  have hfin : Hid (bits .or .u32 (bits .or .u32 (bits .or .u32 ((p : Int) * 16777216) ((q : Int) * 65536)) ((r : Int) * 256)) (s : Int) = ((valB [p, q, r, s] : Nat) : Int)) := by
   show _ = _
   rw [e1, e2, e3, hv.out]
  clear H e1 e2 e3 hv
  go_enter Tryz.func219, Tryz.ntmps219
  go_wp2_with fail
  go_quiet (fail)
  go_wp2_with fail
  go_ret
  refine ⟨?_, _, rfl⟩
  rw [← hfin.out]
  rfl

structure Put (ty : TypeId) (W : World) (g : Nat) (t : TypeId) (RES : List Value) : Prop where
 blk : Blk (W.setCells g 0 RES) g t RES
 grw : W.grownBy (W.setCells g 0 RES) (some g)
 th : W.there g 0 RES.toArray.size
 inf : (Tryz.prog.info? ty).map (·.size) = some RES.toArray.size
 one : RES.toArray.all (·.oneCell') = true
theorem Put.mk' {ty : TypeId} {W : World} {g : Nat} {t : TypeId} {cs RES : List Value} (h : Blk W g t cs) (hl : RES.length = cs.length) (hi : (Tryz.prog.info? ty).map (·.size) = some RES.length) (h1 : ∀ v ∈ RES, v.oneCell' = true) : Put ty W g t RES := by
 obtain ⟨_, a, b⟩ := run_store_blk (P := Tryz.prog) h hl hi h1
 refine ⟨a, b, ?_, by rw [List.size_toArray]; exact hi, all_oneCell_toArray h1⟩
 rw [List.size_toArray, hl]; exact h.there
theorem wv_one (l : List Nat) : ∀ u ∈ wv l, u.oneCell' = true := by
 intro u hu; simp only [wv, List.mem_map] at hu; obtain ⟨x, _, rfl⟩ := hu; rfl
theorem size64 : (Tryz.prog.info? 232).map (·.size) = some 64 := by kernel_rfl
theorem size8 : (Tryz.prog.info? 210).map (·.size) = some 8 := by kernel_rfl

set_option maxHeartbeats 4000000 in
set_option maxRecDepth 100000 in
theorem r2numbers_any (w : World) : Calls Tryz.prog 221 #[] w (fun e w' => e = .returned (.agg (wv Sha.K).toArray) ∧ Below w.heap.size w w') := by
 obtain ⟨KT, hKT⟩ : ∃ KT, Hid (wv Sha.K = KT) := ⟨_, rfl⟩
 have hkl : KT.length = 64 := by rw [← hKT.out, wv_length, Sha.K_length]
 have hk1 : ∀ u ∈ KT, u.oneCell' = true := by rw [← hKT.out]; exact wv_one _
 rw [hKT.out]
 go_enter Tryz.func221, Tryz.ntmps221
 go_upto_region 1 with fail
 obtain ⟨tb, htb⟩ : ∃ tb, Hid (w.heap.size = tb) := ⟨_, rfl⟩
 rw [htb.out]
 generalize hW0 : w.alloc _ = W0
 have B0 : Blk W0 tb 232 (wv (List.replicate 64 0)) := by rw [← hW0, ← htb.out]; exact Blk.new w _ _
 have hb0 : Hid (Below tb w W0) := by show Below _ _ _; rw [← hW0, ← htb.out]; exact (Below.refl _ _).alloc (Nat.le_refl _) _
 have hS0 : tb < W0.heap.size := B0.lt
 have hP := Lib.hid (Put.mk' (ty := 232) (RES := KT) B0 (by rw [hkl]; rfl) (by rw [hkl]; exact size64) hk1)
 clear hW0 B0 hk1
 go_wp2_with (first
  | (refine wpList_buildTo (by rfl) 232 _ rfl (some 1) rfl KT.toArray (by rw [← hKT.out]; kernel_rfl) ?_)
   | (refine wpList_store_mid (by rfl) 232 (.tmp 0) (.tmp 1) (by rfl) tb 0 KT.toArray (by rfl) (by rfl) hP.out.th hP.out.inf hP.out.one ?_))
 refine bodyPost_ret (results_cell_row rfl _ _ tb 232 KT.toArray (0, 0) _ rfl hP.out.blk Tryz.underlying232 rfl hP.out.inf) rfl ?_
 refine ⟨rfl, ?_⟩
 rw [htb.out]
 exact below_grown hb0.out hP.out.grw (Nat.le_of_lt hS0) (Nat.le_refl _)

structure BkB (w : World) (tb : Nat) (s : Sha.St) (L : List Nat) (wz : World) : Prop where
 bS : Blk wz tb 210 (wv (stv s))
 bR : Blk wz (tb + 1) 210 (wv (List.replicate 8 0))
 bW : Blk wz (tb + 1 + 1) 232 (wv L)
 bel : Below tb w wz
section
variable {w wz wq : World} {tb : Nat} {s : Sha.St} {L : List Nat}
theorem BkB.drewN (h : BkB w tb s L wz) (n : Nat) : BkB w tb s L (wz.drewN n) := ⟨h.bS, h.bR, h.bW, h.bel.trans (Go.Mem.below_drewN _ _ _)⟩
theorem BkB.set (h : BkB w tb s L wz) (k x : Nat) : BkB w tb s (L.set k x) (wz.setCell ⟨tb + 1 + 1, k, none⟩ (.int .u32 (x : Int))) :=
 ⟨h.bS.far (by show tb ≠ tb + 1 + 1; omega) _, h.bR.far (by show tb + 1 ≠ tb + 1 + 1; omega) _, by rw [← wv_set]; exact h.bW.set k _, h.bel.setCell (p := ⟨tb + 1 + 1, k, none⟩) (by show tb ≤ tb + 1 + 1; omega) _⟩
end

theorem nx_drew {wz : World} {g k16 k7 : Nat} {u v : Value} (h : wz.cell? ⟨g, k16, none⟩ = some u ∧ wz.cell? ⟨g, k7, none⟩ = some v) : wz.drew.cell? ⟨g, k16, none⟩ = some u ∧ wz.drew.cell? ⟨g, k7, none⟩ = some v := h
theorem nx_next {wz wq : World} {g k16 k7 m : Nat} {u v : Value} (hm : wq = wz.drewN m) (h : wz.cell? ⟨g, k16, none⟩ = some u ∧ wz.cell? ⟨g, k7, none⟩ = some v) : wq.cell? ⟨g, k16, none⟩ = some u ∧ wq.cell? ⟨g, k7, none⟩ = some v := by subst hm; exact h
theorem nx_set {wz : World} {g k16 k7 k : Nat} {u v x : Value} (n16 : k16 ≠ k) (n7 : k7 ≠ k) (h : wz.cell? ⟨g, k16, none⟩ = some u ∧ wz.cell? ⟨g, k7, none⟩ = some v) : (wz.setCell ⟨g, k, none⟩ x).cell? ⟨g, k16, none⟩ = some u ∧ (wz.setCell ⟨g, k, none⟩ x).cell? ⟨g, k7, none⟩ = some v :=
 ⟨by rw [World.cell?_setCell_other (h := fun e => n16 (by cases e; rfl))]; exact h.1, by rw [World.cell?_setCell_other (h := fun e => n7 (by cases e; rfl))]; exact h.2⟩
theorem BkB.next {w wz wq : World} {tb m : Nat} {s : Sha.St} {L : List Nat} (hm : wq = wz.drewN m) (h : Hid (BkB w tb s L wz)) : Hid (BkB w tb s L wq) := by subst hm; exact h.out.drewN m

def BkK (w : World) (tb : Nat) (s : Sha.St) (L : List Nat) (kb : Nat) (wz : World) : Prop := BkB w tb s L wz ∧ Blk wz kb 232 (wv Sha.K)
theorem BkK.next {w wz wq : World} {tb m kb : Nat} {s : Sha.St} {L : List Nat} (hm : wq = wz.drewN m) (h : Hid (BkK w tb s L kb wz)) : Hid (BkK w tb s L kb wq) := by subst hm; exact ⟨h.out.1.drewN m, h.out.2.drewN m⟩
def BkC (w : World) (tb : Nat) (s : Sha.St) (L : List Nat) (kb k K1 X1 : Nat) (wz : World) : Prop := wz.cell? ⟨kb, k, none⟩ = some (.int .u32 (K1 : Int)) ∧ wz.cell? ⟨tb + 1 + 1, k, none⟩ = some (.int .u32 (X1 : Int)) ∧ Hid (BkK w tb s L kb wz)
theorem BkC.next {w wz wq : World} {tb m kb k K1 X1 : Nat} {s : Sha.St} {L : List Nat} (hm : wq = wz.drewN m) (h : BkC w tb s L kb k K1 X1 wz) : BkC w tb s L kb k K1 X1 wq := by subst hm; exact ⟨h.1, h.2.1, BkK.next rfl h.2.2⟩
theorem round2_parts (v : Sha.St) (h : v.Ok) (K W : Nat) : ∃ r6 r11 r25 y1 rA ef ne ng cv t1 t2 t3 p r2 r13 r22 y2 rB ab ac bc z1 mv q d' a' : Nat,
 (Sha.ror v.e 6 = r6 ∧ Sha.ror v.e 11 = r11 ∧ Sha.ror v.e 25 = r25) ∧ (Sha.ror v.a 2 = r2 ∧ Sha.ror v.a 13 = r13 ∧ Sha.ror v.a 22 = r22) ∧
 (bits .xor .u32 (r6 : Int) (r11 : Int) = (y1 : Int) ∧ bits .xor .u32 (y1 : Int) (r25 : Int) = (rA : Int)) ∧
 (bits .xor .u32 (r2 : Int) (r13 : Int) = (y2 : Int) ∧ bits .xor .u32 (y2 : Int) (r22 : Int) = (rB : Int)) ∧
 (bits .and .u32 (v.e : Int) (v.f : Int) = (ef : Int) ∧ bits .xor .u32 4294967295 (v.e : Int) = (ne : Int) ∧ bits .and .u32 (ne : Int) (v.g : Int) = (ng : Int) ∧ bits .xor .u32 (ef : Int) (ng : Int) = (cv : Int)) ∧
 ((IntKind.u32.wrap ((v.h : Int) + (rA : Int)) = (t1 : Int) ∧ IntKind.u32.wrap ((t1 : Int) + (cv : Int)) = (t2 : Int) ∧ IntKind.u32.wrap ((t2 : Int) + (K : Int)) = (t3 : Int) ∧ IntKind.u32.wrap ((t3 : Int) + (W : Int)) = (p : Int)) ∧
  (((v.h : Int) + (rA : Int)) % 4294967296 = (t1 : Int) ∧ ((t1 : Int) + (cv : Int)) % 4294967296 = (t2 : Int) ∧ ((t2 : Int) + (K : Int)) % 4294967296 = (t3 : Int) ∧ ((t3 : Int) + (W : Int)) % 4294967296 = (p : Int))) ∧
 (bits .and .u32 (v.a : Int) (v.b : Int) = (ab : Int) ∧ bits .and .u32 (v.a : Int) (v.c : Int) = (ac : Int) ∧ bits .xor .u32 (ab : Int) (ac : Int) = (z1 : Int) ∧ bits .and .u32 (v.b : Int) (v.c : Int) = (bc : Int) ∧ bits .xor .u32 (z1 : Int) (bc : Int) = (mv : Int)) ∧
 (IntKind.u32.wrap ((rB : Int) + (mv : Int)) = (q : Int) ∧ ((rB : Int) + (mv : Int)) % 4294967296 = (q : Int)) ∧
 (IntKind.u32.wrap ((v.d : Int) + (p : Int)) = (d' : Int) ∧ ((v.d : Int) + (p : Int)) % 4294967296 = (d' : Int)) ∧
 (IntKind.u32.wrap ((p : Int) + (q : Int)) = (a' : Int) ∧ ((p : Int) + (q : Int)) % 4294967296 = (a' : Int)) ∧
 stv (Sha.rnd v K W) = [a', v.a, v.b, v.c, d', v.e, v.f, v.g] := by
 obtain ⟨rA, m1, m2, cv, t1, t2, t3, p, rB, n1, n2, n3, mv, q, d', a', hrA, hrB, ⟨x1, x2, x3⟩, y, ⟨z1, z2, z3, z4⟩, u5, u6, u7, hst⟩ := round_parts v h K W
 have ne' : (4294967295 : Nat) - v.e < 4294967296 := by omega
 have hcv : Sha.ch v.e v.f v.g = cv := by
  have e1 := u32_xor_nat _ _ h.f h.g
  rw [x1] at e1
  have e1' : m1 = v.f ^^^ v.g := by exact_mod_cast e1
  have e2 := u32_and_nat v.e (v.f ^^^ v.g) h.e (Sha.xor_lt h.f h.g)
  rw [e1'] at x2
  rw [x2] at e2
  have e2' : m2 = v.e &&& (v.f ^^^ v.g) := by exact_mod_cast e2
  have e3 := u32_xor_nat v.g (v.e &&& (v.f ^^^ v.g)) h.g (Sha.and_lt (Sha.xor_lt h.f h.g))
  rw [e2'] at x3
  rw [x3] at e3
  have e3' : cv = v.g ^^^ (v.e &&& (v.f ^^^ v.g)) := by exact_mod_cast e3
  rw [e3']; rfl
 have hmv : Sha.maj v.a v.b v.c = mv := by
  have e1 := u32_and_nat _ _ h.a h.b
  rw [z1] at e1
  have e1' : n1 = v.a &&& v.b := by exact_mod_cast e1
  have e2 := u32_or_nat _ _ h.a h.b
  rw [z2] at e2
  have e2' : n2 = v.a ||| v.b := by exact_mod_cast e2
  have e3 := u32_and_nat v.c (v.a ||| v.b) h.c (Sha.or_lt h.a h.b)
  rw [e2'] at z3
  rw [z3] at e3
  have e3' : n3 = v.c &&& (v.a ||| v.b) := by exact_mod_cast e3
  have e4 := u32_or_nat (v.a &&& v.b) (v.c &&& (v.a ||| v.b)) (Sha.and_lt h.b) (Sha.and_lt (Sha.or_lt h.a h.b))
  rw [e1', e3'] at z4
  rw [z4] at e4
  have e4' : mv = (v.a &&& v.b) ||| (v.c &&& (v.a ||| v.b)) := by exact_mod_cast e4
  rw [e4']; rfl
 have lr : ∀ {x : Nat} (r : Nat), x < 4294967296 → Sha.ror x r < 4294967296 := fun r hx => Sha.ror_lt _ r hx
 refine ⟨_, _, _, Sha.ror v.e 6 ^^^ Sha.ror v.e 11, rA, v.e &&& v.f, 4294967295 - v.e, (4294967295 - v.e) &&& v.g, cv, t1, t2, t3, p, _, _, _, Sha.ror v.a 2 ^^^ Sha.ror v.a 13, rB, v.a &&& v.b, v.a &&& v.c, v.b &&& v.c, (v.a &&& v.b) ^^^ (v.a &&& v.c), mv, q, d', a', ⟨rfl, rfl, rfl⟩, ⟨rfl, rfl, rfl⟩, ⟨?_, ?_⟩, ⟨?_, ?_⟩, ⟨?_, ?_, ?_, ?_⟩, y, ⟨?_, ?_, ?_, ?_, ?_⟩, u5, u6, u7, hst⟩
 · exact u32_xor_nat _ _ (lr 6 h.e) (lr 11 h.e)
 · rw [← hrA]; exact u32_xor_nat _ _ (Sha.xor_lt (lr 6 h.e) (lr 11 h.e)) (lr 25 h.e)
 · exact u32_xor_nat _ _ (lr 2 h.a) (lr 13 h.a)
 · rw [← hrB]; exact u32_xor_nat _ _ (Sha.xor_lt (lr 2 h.a) (lr 13 h.a)) (lr 22 h.a)
 · exact u32_and_nat _ _ h.e h.f
 · have := u32_xor_nat 4294967295 v.e (by omega) h.e
   rw [show 4294967295 ^^^ v.e = 4294967295 - v.e from Sha.not32 h.e] at this
   exact this
 · exact u32_and_nat _ _ ne' h.g
 · have := u32_xor_nat (v.e &&& v.f) ((4294967295 - v.e) &&& v.g) (Sha.and_lt h.f) (Sha.and_lt h.g)
   rw [Sha.ch_or h.e h.g, hcv] at this
   exact this
 · exact u32_and_nat _ _ h.a h.b
 · exact u32_and_nat _ _ h.a h.c
 · exact u32_xor_nat _ _ (Sha.and_lt h.b) (Sha.and_lt h.c)
 · exact u32_and_nat _ _ h.b h.c
 · have := u32_xor_nat ((v.a &&& v.b) ^^^ (v.a &&& v.c)) (v.b &&& v.c) (Sha.xor_lt (Sha.and_lt h.b) (Sha.and_lt h.c)) (Sha.and_lt h.c)
   rw [Sha.maj_or, hmv] at this
   exact this

set_option maxHeartbeats 16000000 in
set_option maxRecDepth 100000 in
theorem r2block_any (b off c : Nat) (s : Sha.St) (l : List Nat) (w : World) (hok : s.Ok)
 (H : ∀ (i : Nat) x, l[i]? = some x → w.cell? ⟨b, off + i, none⟩ = some (.int .u8 (x : Int))) (hl : l.length = 64) (hlt : ∀ x ∈ l, x < 256) (hb : b < w.heap.size) (hc : 64 ≤ c) (hmx : c ≤ 9223372036854775807) :
 Calls Tryz.prog 204 #[.agg (wv (stv s)).toArray, .slice (some ⟨b, off, none⟩) 64 c] w (fun e w' => e = .returned (.agg (wv (stv (Sha.comp s l))).toArray) ∧ Below w.heap.size w w') := by
 obtain ⟨ZR, hZR⟩ : ∃ ZR, Hid (wv (List.replicate 64 0) = ZR) := ⟨_, rfl⟩
 have hz1 : ∀ u ∈ ZR, u.oneCell' = true := by rw [← hZR.out]; exact wv_one _
 have hzl : ZR.length = 64 := by rw [← hZR.out, wv_length, List.length_replicate]
 obtain ⟨tb, htb⟩ : ∃ tb, Hid (w.heap.size = tb) := ⟨_, rfl⟩
 go_enter Tryz.func204, Tryz.ntmps204
 go_upto_region 1 with fail
 rw [htb.out]
 obtain ⟨W0, hW0⟩ : ∃ W0, W0 = (w.alloc (.cells (wv (stv s)).toArray 210)).alloc (.cells (wv (List.replicate 8 0)).toArray 210) := ⟨_, rfl⟩
 have hs0 : W0.heap.size = tb + 1 + 1 := by rw [hW0, ← htb.out]; simp
 have B1 : Hid (BkB w tb s (List.replicate 64 0) (W0.alloc (.cells (wv (List.replicate 64 0)).toArray 232))) := by
  have h1 : Blk W0 (tb + 1) 210 (wv (List.replicate 8 0)) := by
   rw [hW0]
   have := Blk.new (w.alloc (.cells (wv (stv s)).toArray 210)) 210 (wv (List.replicate 8 0))
   rw [show (w.alloc (.cells (wv (stv s)).toArray 210)).heap.size = tb + 1 by rw [← htb.out]; simp] at this
   exact this
  have h2 : Blk W0 tb 210 (wv (stv s)) := by rw [hW0, ← htb.out]; exact (Blk.new w _ _).alloc _
  have h3 : Below tb w W0 := by rw [hW0, ← htb.out]; exact ((Below.refl _ w).alloc (Nat.le_refl _) _).alloc (by simp) _
  exact ⟨h2.alloc _, h1.alloc _, hs0 ▸ Blk.new W0 _ _, h3.alloc (by omega) _⟩
 show Code.wp _ _ _ _ ((w.alloc (.cells (wv (stv s)).toArray 210)).alloc (.cells (wv (List.replicate 8 0)).toArray 210))
 rw [← hW0]
 clear hW0
 have hP := Lib.hid (Put.mk' (ty := 232) (RES := ZR) B1.out.bW (by rw [hzl]; rfl) (by rw [hzl]; exact size64) hz1)
 go_upto_region 2 with (first
  | (refine wpList_buildTo (by rfl) 232 _ rfl (some 22) rfl ZR.toArray (by rw [← hZR.out]; kernel_rfl) ?_)
   | (refine wpList_store_mid (by rfl) 232 (.tmp 5) (.tmp 22) (by rfl) (tb + 1 + 1) 0 ZR.toArray (by rfl) (by rfl) hP.out.th hP.out.inf hP.out.one ?_))
 try simp only [Act.put]
 generalize hW2 : World.setCells _ _ _ _ = W2
 have B2 : Hid (BkB w tb s (List.replicate 64 0) W2) := by
  have h := B1.out
  have hq := hP.out
  rw [← hW2]
  refine ⟨?_, ?_, ?_, ?_⟩
  · exact h.bS.grown hq.grw (by intro e; cases e)
  · exact h.bR.grown hq.grw (by intro e; cases e)
  · rw [hZR.out]; exact hq.blk
  · exact below_grown h.bel hq.grw (by have := h.bS.lt; omega) (by omega)
 have hH : Hid (∀ wz, Below tb w wz → ∀ (i : Nat) x, l[i]? = some x → wz.cell? ⟨b, off + i, none⟩ = some (.int .u8 (x : Int))) := fun wz hb' i x hx => (hb'.cell (p := ⟨b, off + i, none⟩) (by rw [← htb.out]; exact hb)).trans (H i x hx)
 clear hW2 hP B1 hz1 hzl hs0 hZR H
 have hc1 : (64 : Int) ≤ (c : Int) := by omega
 have hltd := Lib.hid hlt
 clear hlt
 go_wp2_with fail
 go_loopw [6] (fun i wr => ∃ k : Nat, k ≤ 16 ∧ i = .int .i64 k ∧ BkB w tb s ((Sha.words l).take k ++ List.replicate (64 - k) 0) wr) (fun i _ => 16 - (intOf i).toNat)
 case atStart => exact ⟨0, by omega, rfl, by simpa using B2.out⟩
 case round =>
  obtain ⟨k, hk, rfl, hB⟩ := hrel
  by_cases hlt1 : k < 16
  · have k0 : (0 : Int) ≤ (k : Int) := by omega
    have k1 : (k : Int) < 16 := by omega
    have hcne : ¬ (c : Int) = 4 * (k : Int) := by omega
    have hcne2 : ¬ c = 4 * k := by omega
    have hB' := Lib.hid hB
    clear hB
    go_wp2_with fail
    refine (r2word_any b (off + 4 * k) (c - 4 * k) ((l.drop (4 * k)).take 4) wr ?_ (by rw [List.length_take, List.length_drop, hl]; omega) (fun x hx => hltd.out x (List.mem_of_mem_drop (List.mem_of_mem_take hx))) (by omega)).mono ?_
    · intro i x hi
      have hi4 : i < 4 := by have := (List.getElem?_eq_some_iff.1 hi).1; rw [List.length_take] at this; omega
      rw [List.getElem?_take_of_lt hi4, List.getElem?_drop] at hi
      rw [Nat.add_assoc]
      exact hH.out wr hB'.out.bel _ x hi
    · rintro e w' ⟨rfl, m, rfl⟩
      rw [word_val l (4 * k) (by omega)]
      have hw := Sha.words_get l hlt1
      obtain ⟨x, hx⟩ : ∃ x, Sha.word l (4 * k) = x := ⟨_, rfl⟩
      rw [hx] at hw ⊢
      have hfs := Lib.hid (Sha.fill_step (Sha.words l) k 64 x (by omega) hw)
      have hBd := Lib.hid (hB'.out.drewN m)
      generalize wr.drewN m = wd at *
      have hc0 := hBd.out.bW.at_ (i := k) (x := .int .u32 ((0 : Nat) : Int)) (wv_get (by
       rw [List.getElem?_append_right (by rw [List.length_take]; omega), List.length_take, Sha.words_length, Nat.min_eq_left (by omega), Nat.sub_self]
       rw [List.getElem?_replicate, if_pos (by omega)]))
      have hf0 := hBd.out.bW.frozen k
      have k1' : (k : Int) < 64 := by omega
      clear hx hw hB'
      go_wp2_with fail
      go_roundw
      case rel => exact ⟨k + 1, by omega, by go_num, by rw [← hfs.out]; exact hBd.out.set k x⟩
      case measure => simp [intOf]; omega
  · obtain rfl : k = 16 := by omega
    rw [List.take_of_length_le (by rw [Sha.words_length]; omega)] at hB
    have hB1 := Lib.hid hB
    have hwl : ∀ x ∈ Sha.words l, x < 4294967296 := by
     intro x hx
     simp only [Sha.words, List.mem_map, List.mem_range] at hx
     obtain ⟨t, ht, rfl⟩ := hx
     exact word_lt l hltd.out _ (by omega)
    have hwl' := Lib.hid hwl
    obtain ⟨FIN, hF⟩ : ∃ FIN, Hid (Sha.ext 48 (Sha.words l) = FIN) := ⟨_, rfl⟩
    have hfin : Hid (Sha.ext (64 - 16) (Sha.words l) = FIN) := hF.out
    clear hB hwl hk hH
    rw [show ((16 : Nat) : Int) = 16 from rfl]
    go_wp2_with fail
    go_loopw [7] (fun i wr => ∃ (k : Nat) (L : List Nat), 16 ≤ k ∧ k ≤ 64 ∧ i = .int .i64 k ∧ L.length = k ∧ (∀ x ∈ L, x < 4294967296) ∧ BkB w tb s (L ++ List.replicate (64 - k) 0) wr ∧ Sha.ext (64 - k) L = FIN) (fun i _ => 64 - (intOf i).toNat)
    case atStart => exact ⟨16, Sha.words l, by omega, by omega, rfl, Sha.words_length l, hwl'.out, hB1.out, hfin.out⟩
    case round =>
     obtain ⟨k, L, hk16, hk, rfl, hLl, hLlt, hB, hex⟩ := hrel
     by_cases hlt2 : k < 64
     · have hB' := Lib.hid hB
       have hL' := Lib.hid hLl
       have g : ∀ d : Nat, 1 ≤ d → d ≤ 16 → ∃ x, Sha.get L (k - d) = x ∧ x < 4294967296 ∧ (L ++ List.replicate (64 - k) 0)[k - d]? = some x := by
        intro d hd1 hd2
        have hi : k - d < L.length := by omega
        refine ⟨L[k - d], ?_, hLlt _ (List.getElem_mem hi), ?_⟩
        · unfold Sha.get; rw [List.getD_eq_getElem?_getD, List.getElem?_eq_getElem hi]; rfl
        · rw [List.getElem?_append_left hi, List.getElem?_eq_getElem hi]
       obtain ⟨x16, e16, l16, d16⟩ := g 16 (by omega) (by omega)
       obtain ⟨x15, e15, l15, d15⟩ := g 15 (by omega) (by omega)
       obtain ⟨x7, e7, l7, d7⟩ := g 7 (by omega) (by omega)
       obtain ⟨x2, e2, l2, d2⟩ := g 2 (by omega) (by omega)
       have c15 := hB'.out.bW.at_ (wv_get d15)
       have c2 := hB'.out.bW.at_ (wv_get d2)
       have hnx : Hid (Sha.next L = (x16 + Sha.ss0 x15 + x7 + Sha.ss1 x2) % 4294967296) := by show _ = _; unfold Sha.next; rw [hLl, e16, e15, e7, e2]
       have s16 : (k : Int) - 16 = ((k - 16 : Nat) : Int) := by omega
       have s15 : (k : Int) - 15 = ((k - 15 : Nat) : Int) := by omega
       have s7 : (k : Int) - 7 = ((k - 7 : Nat) : Int) := by omega
       have s2 : (k : Int) - 2 = ((k - 2 : Nat) : Int) := by omega
       obtain ⟨k16, q16⟩ : ∃ x, k - 16 = x := ⟨_, rfl⟩
       obtain ⟨k15, q15⟩ : ∃ x, k - 15 = x := ⟨_, rfl⟩
       obtain ⟨k7, q7⟩ : ∃ x, k - 7 = x := ⟨_, rfl⟩
       obtain ⟨k2, q2⟩ : ∃ x, k - 2 = x := ⟨_, rfl⟩
       rw [q16] at s16 d16; rw [q15] at s15 d15 c15; rw [q7] at s7 d7; rw [q2] at s2 d2 c2
       have b16 : (k16 : Int) < 64 := by omega
       have b15 : (k15 : Int) < 64 := by omega
       have b7 : (k7 : Int) < 64 := by omega
       have b2 : (k2 : Int) < 64 := by omega
       have p16 : (0 : Int) ≤ (k16 : Int) := by omega
       have p15 : (0 : Int) ≤ (k15 : Int) := by omega
       have p7 : (0 : Int) ≤ (k7 : Int) := by omega
       have p2 : (0 : Int) ≤ (k2 : Int) := by omega
       have kk : (k : Int) < 64 := by omega
       have hLlt' := Lib.hid hLlt
       have hex' := Lib.hid hex
       obtain ⟨a7, a18, m0, S0, ra, rb, eS0, lS0, f1, f2⟩ := ss0_parts x15 l15
       obtain ⟨a17, a19, m1, S1, rc, rd, eS1, lS1, f3, f4⟩ := ss1_parts x2 l2
       obtain ⟨t1, et1, lt1, u1, v1⟩ := add_parts x16 S0
       obtain ⟨t2, et2, lt2, u2, v2⟩ := add_parts t1 x7
       obtain ⟨t3, et3, lt3, u3, v3⟩ := add_parts t2 S1
       have hnx' : Hid (Sha.next L = t3) := by show _ = _; rw [hnx.out, eS0, eS1]; omega
       have R1 : Hid (∀ W, Calls Tryz.prog 220 #[.int .u32 (x15 : Int), .int .i64 7] W (RetD (.int .u32 (a7 : Int)) W)) := fun W => by rw [← ra]; exact r2ror_any x15 7 l15 (by omega) (by omega) W
       have R2 : Hid (∀ W, Calls Tryz.prog 220 #[.int .u32 (x15 : Int), .int .i64 18] W (RetD (.int .u32 (a18 : Int)) W)) := fun W => by rw [← rb]; exact r2ror_any x15 18 l15 (by omega) (by omega) W
       have R3 : Hid (∀ W, Calls Tryz.prog 220 #[.int .u32 (x2 : Int), .int .i64 17] W (RetD (.int .u32 (a17 : Int)) W)) := fun W => by rw [← rc]; exact r2ror_any x2 17 l2 (by omega) (by omega) W
       have R4 : Hid (∀ W, Calls Tryz.prog 220 #[.int .u32 (x2 : Int), .int .i64 19] W (RetD (.int .u32 (a19 : Int)) W)) := fun W => by rw [← rd]; exact r2ror_any x2 19 l2 (by omega) (by omega) W
       have z0 : (0 : Int) ≤ (x15 : Int) := by omega
       have z2 : (0 : Int) ≤ (x2 : Int) := by omega
       have d0 : (L ++ List.replicate (64 - k) 0)[k]? = some 0 := by rw [List.getElem?_append_right (by omega), hLl, Nat.sub_self, List.getElem?_replicate, if_pos (by omega)]
       clear g e16 e15 e7 e2 q16 q15 q7 q2 hB hLl hLlt hex hnx ra rb rc rd eS0 eS1 et1 et2 et3
       go_wp2_with fail
       have c16 := hB'.out.bW.at_ (wv_get d16)
       have c7 := hB'.out.bW.at_ (wv_get d7)
       have hcc := And.intro c16 c7
       have hBs := Lib.hid (hB'.out.drewN 1)
       have w16 : IntKind.i64.wrap (k16 : Int) = (k16 : Int) := IntWalk.i64_in _ ⟨by omega, by omega⟩
       have w7 : IntKind.i64.wrap (k7 : Int) = (k7 : Int) := IntWalk.i64_in _ ⟨by omega, by omega⟩
       have n16 : k16 ≠ k := by omega
       have n7 : k7 ≠ k := by omega
       clear hB' c15 c2 d16 d15 d7 d2 c16 c7
       replace hBs : Hid (BkB w tb s (L ++ List.replicate (64 - k) 0) wr.drew) := hBs
       go_region_held3 (fun wz => wz.cell? ⟨tb + 1 + 1, k16, none⟩ = some (.int .u32 (x16 : Int)) ∧ wz.cell? ⟨tb + 1 + 1, k7, none⟩ = some (.int .u32 (x7 : Int))) (first | assumption | exact nx_drew (by assumption) | exact nx_set (by assumption) (by assumption) (by assumption))
        (first
          | (go_at_call_of 220 (Value.int IntKind.i64 7); refine (R1.out _).mono ?_; rintro e wq ⟨rfl, m, hm⟩; have hsq := nx_next hm (by assumption); have hB1 := BkB.next hm (by assumption); clear hm)
           | (go_at_call_of 220 (Value.int IntKind.i64 18); refine (R2.out _).mono ?_; rintro e wq ⟨rfl, m, hm⟩; have hsq := nx_next hm (by assumption); have hB1 := BkB.next hm (by assumption); clear hm)
           | (go_at_call_of 220 (Value.int IntKind.i64 17); refine (R3.out _).mono ?_; rintro e wq ⟨rfl, m, hm⟩; have hsq := nx_next hm (by assumption); have hB1 := BkB.next hm (by assumption); clear hm)
           | (go_at_call_of 220 (Value.int IntKind.i64 19); refine (R4.out _).mono ?_; rintro e wq ⟨rfl, m, hm⟩; have hsq := nx_next hm (by assumption); have hB1 := BkB.next hm (by assumption); have hck := hB1.out.bW.at_ (wv_get d0); have hfk := hB1.out.bW.frozen k; clear hm))
       have hset : Hid ((L ++ List.replicate (64 - k) 0).set k t3 = (L ++ [t3]) ++ List.replicate (64 - (k + 1)) 0) := Sha.fill_snoc L k 64 t3 hlt2 hL'.out
       have hBf := hB1
       clear hcc hBs R1 R2 R3 R4
       go_wp2_with fail
       go_roundw
       case rel =>
        refine ⟨k + 1, L ++ [t3], by omega, by omega, by go_num, by rw [List.length_append, hL'.out]; rfl, fun x hx => ?_, ?_, ?_⟩
        · rcases List.mem_append.1 hx with h | h
          · exact hLlt'.out x h
          · simp at h; omega
        · rw [← hset.out]; exact hBf.out.set k t3
        · rw [← hnx'.out, ← Sha.ext_succ, show 64 - (k + 1) + 1 = 64 - k by omega]; exact hex'.out
       case measure => simp [intOf]; omega
     · obtain rfl : k = 64 := by omega
       obtain rfl : L = FIN := hex
       rw [Nat.sub_self, List.replicate_zero, List.append_nil] at hB
       have hB2 := Lib.hid hB; have hL2 := Lib.hid hLl; have hLlt2 := Lib.hid hLlt
       clear hB hLl hLlt hk16 hk hB1 hfin hwl'
       rw [show ((64 : Nat) : Int) = 64 from rfl]
       go_wp2_with fail
       refine (r2numbers_any wr).mono ?_
       rintro e W4 ⟨rfl, hb4⟩
       obtain ⟨kb, hkb⟩ : ∃ kb, Hid (W4.heap.size = kb) := ⟨_, rfl⟩
       obtain ⟨KT, hKT⟩ : ∃ KT, Hid (wv Sha.K = KT) := ⟨_, rfl⟩
       have hkl : KT.length = 64 := by rw [← hKT.out, wv_length, Sha.K_length]
       have hk1 : ∀ u ∈ KT, u.oneCell' = true := by rw [← hKT.out]; exact wv_one _
       rw [hKT.out]
       have hkb0 : tb + 1 + 1 < kb := by rw [← hkb.out]; exact Nat.lt_of_lt_of_le hB2.out.bW.lt hb4.size
       have hP := Lib.hid (Put.mk' (ty := 232) (RES := KT) (Blk.new W4 232 (wv (List.replicate 64 0))) (by rw [hkl]; rfl) (by rw [hkl]; exact size64) hk1)
       have hBa : Hid (BkB w tb s L (W4.alloc (.cells (wv (List.replicate 64 0)).toArray 232))) := by
        have h := hB2.out
        exact ⟨(h.bS.below hb4 h.bS.lt).alloc _, (h.bR.below hb4 h.bR.lt).alloc _, (h.bW.below hb4 h.bW.lt).alloc _, (h.bel.trans (hb4.mono (by have := h.bS.lt; omega))).alloc (by have := hkb.out; omega) _⟩
       clear hb4 hk1 hkl
       go_upto_region 13 with (first
        | (refine wpList_store_mid (by rfl) 232 (.tmp 10) (.tmp 78) (by rfl) W4.heap.size 0 KT.toArray (by rfl) (by rfl) hP.out.th hP.out.inf hP.out.one ?_))
       try simp only [Act.put]
       rw [hkb.out] at hP ⊢
       generalize hW5 : World.setCells _ _ _ _ = W5
       have B5 : Hid (BkB w tb s L W5) := by
        have h := hBa.out
        have hq := hP.out
        rw [← hW5]
        exact ⟨h.bS.grown hq.grw (by intro e; cases e; omega), h.bR.grown hq.grw (by intro e; cases e; omega), h.bW.grown hq.grw (by intro e; cases e; omega), below_grown h.bel hq.grw (by have := h.bS.lt; omega) (by omega)⟩
       have K5 : Hid (Blk W5 kb 232 (wv Sha.K)) := by rw [← hW5, hKT.out]; exact hP.out.blk
       clear hW5 hP hBa hKT
       have s0 := B5.out.bS.at_ (i := 0) (x := .int .u32 (s.a : Int)) rfl
       have s1 := B5.out.bS.at_ (i := 1) (x := .int .u32 (s.b : Int)) rfl
       have s2 := B5.out.bS.at_ (i := 2) (x := .int .u32 (s.c : Int)) rfl
       have s3 := B5.out.bS.at_ (i := 3) (x := .int .u32 (s.d : Int)) rfl
       have s4 := B5.out.bS.at_ (i := 4) (x := .int .u32 (s.e : Int)) rfl
       have s5 := B5.out.bS.at_ (i := 5) (x := .int .u32 (s.f : Int)) rfl
       have s6 := B5.out.bS.at_ (i := 6) (x := .int .u32 (s.g : Int)) rfl
       have s7 := B5.out.bS.at_ (i := 7) (x := .int .u32 (s.h : Int)) rfl
       go_quiet (fail)
       clear s0 s1 s2 s3 s4 s5 s6 s7
       obtain ⟨VF, hVF⟩ : ∃ VF, Hid (Sha.rnds s Sha.K L = VF) := ⟨_, rfl⟩
       have hokd := Lib.hid hok
       clear hok
       go_wp2_with fail
       have hBK := Lib.hid (And.intro B5.out K5.out)
       have hBK0 : Hid (BkK w tb s L kb (W5.drewN nq)) := Lib.hid ⟨B5.out.drewN _, K5.out.drewN _⟩
       go_loopw [11, 12, 13, 14, 15, 16, 17, 18, 19] (fun ra rb rc rd re rf rg rh i wq => ∃ (k : Nat) (v : Sha.St), k ≤ 64 ∧ i = .int .i64 k ∧ ra = .int .u32 (v.a : Int) ∧ rb = .int .u32 (v.b : Int) ∧ rc = .int .u32 (v.c : Int) ∧ rd = .int .u32 (v.d : Int) ∧ re = .int .u32 (v.e : Int) ∧ rf = .int .u32 (v.f : Int) ∧ rg = .int .u32 (v.g : Int) ∧ rh = .int .u32 (v.h : Int) ∧ v.Ok ∧ Sha.rnds v (Sha.K.drop k) (L.drop k) = VF ∧ Hid (BkK w tb s L kb wq)) (fun _ _ _ _ _ _ _ _ i _ => 64 - (intOf i).toNat)
       case atStart => exact ⟨0, s, by omega, rfl, rfl, rfl, rfl, rfl, rfl, rfl, rfl, rfl, hokd.out, hVF.out, hBK0⟩
       case round =>
        obtain ⟨k, v, hk, rfl, rfl, rfl, rfl, rfl, rfl, rfl, rfl, rfl, hvok, hrn, hBk⟩ := hrel
        by_cases hlt3 : k < 64
        · have hKl : k < Sha.K.length := by rw [Sha.K_length]; exact hlt3
          have hLk : k < L.length := by rw [hL2.out]; exact hlt3
          have ck := hBk.out.2.at_ (wv_get (List.getElem?_eq_getElem hKl))
          have cx := hBk.out.1.bW.at_ (wv_get (List.getElem?_eq_getElem hLk))
          rw [List.drop_eq_getElem_cons hKl, List.drop_eq_getElem_cons hLk, Sha.rnds_cons] at hrn
          obtain ⟨K1, hK1⟩ : ∃ x, Sha.K[k] = x := ⟨_, rfl⟩
          obtain ⟨X1, hX1⟩ : ∃ x, L[k] = x := ⟨_, rfl⟩
          rw [hK1] at ck hrn
          rw [hX1] at cx hrn
          have k0 : (0 : Int) ≤ (k : Int) := by omega
          have k1 : (k : Int) < 64 := by omega
          obtain ⟨r6, r11, r25, y1, rA, ef, ne, ng, cv, t1, t2, t3, p, r2, r13, r22, y2, rB, ab, ac, bc, z1, mv, q, d', a', ⟨p6, p11, p25⟩, ⟨p2, p13, p22⟩, ⟨x1, x2⟩, ⟨x3, x4⟩, ⟨x5, x6, x7, x8⟩, ⟨⟨u1, u2, u3, u4⟩, y1', y2', y3', y4'⟩, ⟨z1', z2', z3', z4', z5'⟩, ⟨u5', y5⟩, ⟨u6', y6⟩, ⟨u7', y7⟩, hst⟩ := round2_parts v hvok K1 X1
          have RE : Hid (∀ W (r x : Nat), 0 < r → r < 32 → Sha.ror v.e r = x → Calls Tryz.prog 220 #[.int .u32 (v.e : Int), .int .i64 (r : Int)] W (RetD (.int .u32 (x : Int)) W)) := fun W r x h0 h1 e => by rw [← e]; exact r2ror_any v.e r hvok.e h0 h1 W
          have R1 : Hid (∀ W, Calls Tryz.prog 220 #[.int .u32 (v.e : Int), .int .i64 6] W (RetD (.int .u32 (r6 : Int)) W)) := fun W => RE.out W 6 _ (by omega) (by omega) p6
          have R2 : Hid (∀ W, Calls Tryz.prog 220 #[.int .u32 (v.e : Int), .int .i64 11] W (RetD (.int .u32 (r11 : Int)) W)) := fun W => RE.out W 11 _ (by omega) (by omega) p11
          have R3 : Hid (∀ W, Calls Tryz.prog 220 #[.int .u32 (v.e : Int), .int .i64 25] W (RetD (.int .u32 (r25 : Int)) W)) := fun W => RE.out W 25 _ (by omega) (by omega) p25
          have RF : Hid (∀ W (r x : Nat), 0 < r → r < 32 → Sha.ror v.a r = x → Calls Tryz.prog 220 #[.int .u32 (v.a : Int), .int .i64 (r : Int)] W (RetD (.int .u32 (x : Int)) W)) := fun W r x h0 h1 e => by rw [← e]; exact r2ror_any v.a r hvok.a h0 h1 W
          have R4 : Hid (∀ W, Calls Tryz.prog 220 #[.int .u32 (v.a : Int), .int .i64 2] W (RetD (.int .u32 (r2 : Int)) W)) := fun W => RF.out W 2 _ (by omega) (by omega) p2
          have R5 : Hid (∀ W, Calls Tryz.prog 220 #[.int .u32 (v.a : Int), .int .i64 13] W (RetD (.int .u32 (r13 : Int)) W)) := fun W => RF.out W 13 _ (by omega) (by omega) p13
          have R6 : Hid (∀ W, Calls Tryz.prog 220 #[.int .u32 (v.a : Int), .int .i64 22] W (RetD (.int .u32 (r22 : Int)) W)) := fun W => RF.out W 22 _ (by omega) (by omega) p22
          have x6' : bits .xor .u32 (if IntKind.u32.signed = true then -1 else IntKind.u32.max) (v.e : Int) = (ne : Int) := x6
          clear x6
          have hok2 := Lib.hid (Sha.rnd_ok hvok K1 X1)
          have hrn' := Lib.hid hrn; have hst' := Lib.hid hst
          have hcc : BkC w tb s L kb k K1 X1 wr := ⟨ck, cx, hBk⟩
          clear hrn hst hK1 hX1 p6 p11 p25 p2 p13 p22 RE RF hvok ck cx hBK hBK0 hBk
          go_wp2_with fail
          refine wp_region_held_drew (S := fun wz => BkC w tb s L kb k K1 X1 wz) (by kernel_rfl) (BkC.next (m := 1) rfl hcc) (fun hHeld => ?_)
          refine tQ 0 rfl hHeld ?_
          refine tQ 1 rfl hHeld ?_
          refine tQ 3 rfl hHeld ?_
          refine tQ 6 rfl hHeld ?_
          refine tQ 10 rfl hHeld ?_
          refine tQ 11 rfl hHeld ?_
          refine tQ 12 rfl hHeld ?_
          refine tQ 13 rfl hHeld ?_
          refine tQ 14 rfl hHeld ?_
          refine tQ 15 rfl hHeld ?_
          refine tQ 16 rfl hHeld ?_
          refine tQ 17 rfl hHeld ?_
          refine tQ 19 rfl hHeld ?_
          refine tQ 20 rfl hHeld ?_
          refine tX 21 rfl (fun wz hSw => hSw.1) hHeld ?_
          refine tQ 23 rfl hHeld ?_
          refine tQ 24 rfl hHeld ?_
          refine tX 25 rfl (fun wz hSw => hSw.2.1) hHeld ?_
          refine tO 2 rfl (fun K hK => ?_)
          go_simp
          go_at_call 220
          refine (R1.out _).mono ?_
          rintro e wq ⟨rfl, m, hm⟩
          refine hK.out _ _ (BkC.next hm hHeld) (fun hHeld => ?_)
          clear hm
          clear hK K
          try simp only [Act.put, sA, s0, s1]
          refine tO 4 rfl (fun K hK => ?_)
          go_simp
          go_at_call 220
          refine (R2.out _).mono ?_
          rintro e wq ⟨rfl, m, hm⟩
          refine hK.out _ _ (BkC.next hm hHeld) (fun hHeld => ?_)
          clear hm
          clear hK K
          try simp only [Act.put, sA, s0, s1]
          refine tQ 5 rfl hHeld ?_
          refine tO 7 rfl (fun K hK => ?_)
          go_simp
          go_at_call 220
          refine (R3.out _).mono ?_
          rintro e wq ⟨rfl, m, hm⟩
          refine hK.out _ _ (BkC.next hm hHeld) (fun hHeld => ?_)
          clear hm
          clear hK K
          try simp only [Act.put, sA, s0, s1]
          refine tQ 8 rfl hHeld ?_
          refine tQ 9 rfl hHeld ?_
          refine tQ 18 rfl hHeld ?_
          refine tQ 22 rfl hHeld ?_
          refine tQ 26 rfl hHeld ?_
          refine tQ 27 rfl hHeld ?_
          refine wpAnyH_done (by kernel_rfl) ?_ _
          have hB1 := hHeld.2.2
          clear hcc hHeld R1 R2 R3
          go_wp2_with fail
          refine (R4.out _).mono ?_
          rintro e wq ⟨rfl, m1, hm1⟩
          have hB2 := BkK.next hm1 hB1
          clear hm1 hB1
          go_wp2_with fail
          refine (R5.out _).mono ?_
          rintro e wq2 ⟨rfl, m2, hm2⟩
          have hB3 := BkK.next hm2 hB2
          clear hm2 hB2
          go_wp2_with fail
          refine (R6.out _).mono ?_
          rintro e wq3 ⟨rfl, m3, hm3⟩
          have hB4 := BkK.next hm3 hB3
          clear hm3 hB3 R4 R5 R6
          go_wp2_with fail
          go_roundw
          case rel =>
           have e1 := hst'.out
           rw [show Sha.rnd v K1 X1 = ⟨(Sha.rnd v K1 X1).a, (Sha.rnd v K1 X1).b, (Sha.rnd v K1 X1).c, (Sha.rnd v K1 X1).d, (Sha.rnd v K1 X1).e, (Sha.rnd v K1 X1).f, (Sha.rnd v K1 X1).g, (Sha.rnd v K1 X1).h⟩ from rfl] at e1
           simp only [stv, List.cons.injEq, and_true] at e1
           refine ⟨k + 1, Sha.rnd v K1 X1, by omega, by go_num, ?_, rfl, rfl, rfl, ?_, rfl, rfl, rfl, hok2.out, hrn'.out, hB4⟩
           · show _ = Value.int .u32 _; rw [e1.1]
           · rw [e1.2.2.2.2.1]
          case measure => simp [intOf]; omega
        · obtain rfl : k = 64 := by omega
          rw [List.drop_eq_nil_of_le (by rw [Sha.K_length]; omega), List.drop_eq_nil_of_le (by rw [hL2.out]; omega)] at hrn
          obtain rfl : v = VF := hrn
          have hcomp : Hid (Sha.comp s l = Sha.plus s v) := by show _ = _; unfold Sha.comp; rw [hF.out, hVF.out]
          have s0 := hBk.out.1.bS.at_ (i := 0) (x := .int .u32 (s.a : Int)) rfl
          have s1 := hBk.out.1.bS.at_ (i := 1) (x := .int .u32 (s.b : Int)) rfl
          have s2 := hBk.out.1.bS.at_ (i := 2) (x := .int .u32 (s.c : Int)) rfl
          have s3 := hBk.out.1.bS.at_ (i := 3) (x := .int .u32 (s.d : Int)) rfl
          have s4 := hBk.out.1.bS.at_ (i := 4) (x := .int .u32 (s.e : Int)) rfl
          have s5 := hBk.out.1.bS.at_ (i := 5) (x := .int .u32 (s.f : Int)) rfl
          have s6 := hBk.out.1.bS.at_ (i := 6) (x := .int .u32 (s.g : Int)) rfl
          have s7 := hBk.out.1.bS.at_ (i := 7) (x := .int .u32 (s.h : Int)) rfl
          obtain ⟨z0, e0, l0, w0, v0⟩ := add_parts s.a v.a
          obtain ⟨z1, e1, l1, w1, v1⟩ := add_parts s.b v.b
          obtain ⟨z2, e2, l2, w2, v2⟩ := add_parts s.c v.c
          obtain ⟨z3, e3, l3, w3, v3⟩ := add_parts s.d v.d
          obtain ⟨z4, e4, l4, w4, v4⟩ := add_parts s.e v.e
          obtain ⟨z5, e5, l5, w5, v5⟩ := add_parts s.f v.f
          obtain ⟨z6, e6, l6, w6, v6⟩ := add_parts s.g v.g
          obtain ⟨z7, e7, l7, w7, v7⟩ := add_parts s.h v.h
          have hplus : Hid (wv (stv (Sha.plus s v)) = wv [z0, z1, z2, z3, z4, z5, z6, z7]) := by show _ = _; rw [← e0, ← e1, ← e2, ← e3, ← e4, ← e5, ← e6, ← e7]; rfl
          have hP := Lib.hid (Put.mk' (ty := 210) (RES := wv [z0, z1, z2, z3, z4, z5, z6, z7]) hBk.out.1.bR (by rfl) size8 (wv_one _))
          have hfin : Hid (Below w.heap.size w (wr.setCells (tb + 1) 0 (wv [z0, z1, z2, z3, z4, z5, z6, z7]))) := by
           have h1 := below_grown hBk.out.1.bel hP.out.grw (by have := hBk.out.1.bS.lt; omega) (by omega)
           show Below _ _ _
           rw [htb.out]; exact h1
          clear e0 e1 e2 e3 e4 e5 e6 e7 hVF hF
          clear hBk
          go_wp2_with (first
           | (refine wpList_store_mid (by rfl) 210 (.tmp 4) (.tmp 190) (by rfl) (tb + 1) 0 (wv [z0, z1, z2, z3, z4, z5, z6, z7]).toArray (by rfl) (by rfl) hP.out.th hP.out.inf hP.out.one ?_))
          refine bodyPost_ret (results_cell_row rfl _ _ (tb + 1) 210 (wv [z0, z1, z2, z3, z4, z5, z6, z7]).toArray (0, 0) _ rfl hP.out.blk Tryz.underlying210 rfl hP.out.inf) rfl ?_
          exact ⟨by rw [hcomp.out, hplus.out], hfin.out⟩
end Go.Proofs.YtnonfdcbnkdmcaaGreatDoor
namespace Sha
theorem be8_take {N k : Nat} (hk : k < 8) : (be 8 N).take (k + 1) = (be 8 N).take k ++ [N / 256 ^ (7 - k) % 256] := by
 have h : (be 8 N)[k]? = some (N / 256 ^ (7 - k) % 256) := by
  unfold be
  rw [List.getElem?_map, List.getElem?_range hk]
  rfl
 rw [List.take_add_one, h]
 rfl
theorem blocks_snoc (k : Nat) (s : St) (l : List Nat) : blocks (k + 1) s l = comp (blocks k s l) ((l.drop (64 * k)).take 64) := by rw [blocks_add k 1]; rfl
end Sha
namespace Go.Proofs.YtnonfdcbnkdmcaaGreatDoor
open Go.RowKit Go.Mem

theorem out_at (s : Sha.St) (k : Nat) (hk : k < 32) : ∃ x, (stv s)[k / 4]? = some x ∧ (Sha.out s)[k]? = some (x / 2 ^ (24 - 8 * (k % 4)) % 256) := by
 have h : k = 0 ∨ k = 1 ∨ k = 2 ∨ k = 3 ∨ k = 4 ∨ k = 5 ∨ k = 6 ∨ k = 7 ∨ k = 8 ∨ k = 9 ∨ k = 10 ∨ k = 11 ∨ k = 12 ∨ k = 13 ∨ k = 14 ∨ k = 15 ∨ k = 16 ∨ k = 17 ∨ k = 18 ∨ k = 19 ∨ k = 20 ∨ k = 21 ∨ k = 22 ∨ k = 23 ∨ k = 24 ∨ k = 25 ∨ k = 26 ∨ k = 27 ∨ k = 28 ∨ k = 29 ∨ k = 30 ∨ k = 31 := by omega
 rcases h with rfl | rfl | rfl | rfl | rfl | rfl | rfl | rfl | rfl | rfl | rfl | rfl | rfl | rfl | rfl | rfl | rfl | rfl | rfl | rfl | rfl | rfl | rfl | rfl | rfl | rfl | rfl | rfl | rfl | rfl | rfl | rfl <;> exact ⟨_, rfl, rfl⟩

def OwnY (B : Nat) (W : World) (v : Value) (l : List Nat) : Prop := W.ownsRow B 5 1 v l.length (bv l) ∧ ∀ x ∈ l, x < 256
theorem append_byL {B : Nat} {w0 W : World} {v : Value} {l l2 : List Nat} {a : Option Addr} {m c : Nat} (ho : OwnY B W v l) (hB : B ≤ W.heap.size) (hb0 : Below B w0 W) (H : BW W a m c l2) (hn : l.length + m ≤ 140737488355328) :
 ∃ v' W', (∀ ty, (Builtin.append_ #[71, 71] ty #[v, .slice a m c]).run Tryz.prog W = .ok v' W') ∧ OwnY B W' v' (l ++ l2) ∧ Below B w0 W' := by
 obtain ⟨v', w', hr, h3, h4⟩ := append_bs ho.1 H hn hB
 refine ⟨v', w', hr, ⟨?_, ?_⟩, hb0.grown h4 hB (fun r e => (World.ownsRow.lt ho.1 r e).1)⟩
 · rw [List.length_append, H.len]; exact h3
 · intro x hx
   rcases List.mem_append.1 hx with hx | hx
   · exact ho.2 x hx
   · exact H.lt x hx
theorem append_b1L {B : Nat} {w0 W : World} {v : Value} {l : List Nat} {x : Nat} (ho : OwnY B W v l) (hB : B ≤ W.heap.size) (hb0 : Below B w0 W) (hx : x < 256) (hn : l.length + 1 ≤ 140737488355328) :
 ∃ v' W', (∀ ty, (Builtin.append_ #[71, 71] ty #[v, .slice (some ⟨W.heap.size, 0, none⟩) 1 1]).run Tryz.prog (W.alloc (.cells #[.int .u8 (x : Int)] 5)) = .ok v' W') ∧ OwnY B W' v' (l ++ [x]) ∧ Below B w0 W' := by
 have hBk := Blk.new W 5 (bv [x])
 have hba := hb0.alloc hB (.cells (bv [x]).toArray 5)
 have ho' : OwnY B (W.alloc (.cells (bv [x]).toArray 5)) v l := ⟨World.ownsRow.alloc ho.1 _, ho.2⟩
 have hs : BS (W.alloc (.cells (bv [x]).toArray 5)) (some ⟨W.heap.size, 0, none⟩) 1 1 [x] := Blk.bs (pre := []) (post := []) (l := [x]) (c := 1) (by simpa using hBk) (by simp) (by omega) (by simpa using hx)
 exact append_byL ho' (by simp; omega) hba (bw_of hs) hn
theorem own_new (W : World) : OwnY W.heap.size (W.alloc (.cells #[] 5)) (.slice (some ⟨W.heap.size, 0, none⟩) 0 0) [] :=
 ⟨⟨rfl, Or.inr ⟨W.heap.size, 0, #[], rfl, Nat.le_refl _, heap_alloc_new W _, Nat.le_refl _, by unfold maxLen; omega, rfl, rfl⟩⟩, by simp⟩

def sliceLen : Value → Nat | .slice _ n _ => n | _ => 0
set_option maxRecDepth 20000 in
set_option maxHeartbeats 2000000 in
theorem r2padded_any (a : Option Addr) (n c : Nat) (l : List Nat) (w : World) (H : BW w a n c l) (hn : n ≤ 140737488355000) :
 Calls Tryz.prog 203 #[.slice a n c] w (fun e w' => ∃ v, e = .returned v ∧ OwnY w.heap.size w' v (Sha.padded l) ∧ Below w.heap.size w w') := by
 obtain ⟨X, hX⟩ : ∃ X, X = (fun (e : Ending) (w' : World) => ∃ v, e = .returned v ∧ OwnY w.heap.size w' v (Sha.padded l) ∧ Below w.heap.size w w') := ⟨_, rfl⟩
 rw [← hX]
 have hXX := Lib.hid hX
 clear hX
 have hlen : l.length = n := H.len
 have hll := Lib.hid hlen
 obtain ⟨z, hz⟩ : ∃ z, Hid (Sha.zeros n = z) := ⟨_, rfl⟩
 have hz64 : Hid (z < 64 ∧ (n + 1 + z) % 64 = 56 ∧ ∀ j, j < z → (n + 1 + j) % 64 ≠ 56) := by
  show _ ∧ _; rw [← hz.out]; exact ⟨Sha.zeros_lt n, Sha.zeros_mod n, fun j => Sha.zeros_least n j⟩
 have hpad : Hid (∀ L, L = (l ++ [128] ++ List.replicate z 0) ++ (Sha.be 8 (8 * n)).take 8 → L = Sha.padded l) := fun L h => by
  rw [h, List.take_of_length_le (by rw [Sha.be_length]; omega)]
  unfold Sha.padded
  rw [hll.out, hz.out]
 obtain ⟨v1, w1, hr1', ho1', hb1'⟩ := append_byL (own_new w) (by simp) ((Below.refl _ w).alloc (Nat.le_refl _) (.cells #[] 5)) (H.below ((Below.refl _ w).alloc (Nat.le_refl _) (.cells #[] 5))) (by simp; omega)
 rw [List.nil_append] at ho1'
 obtain ⟨v2, w2, hr2', ho2', hb2'⟩ := append_b1L (x := 128) ho1' hb1'.size hb1' (by decide) (by omega)
 have hr1 := Lib.hid hr1'; have hr2 := Lib.hid hr2'; have ho2 := Lib.hid ho2'; have hb2 := Lib.hid hb2'
 clear hr1' hr2' ho1' ho2' hb1' hb2' H hlen
 have n0 : (0 : Int) ≤ (n : Int) := by omega
 have n1 : (n : Int) ≤ 140737488355000 := by omega
 go_enter Tryz.func203, Tryz.ntmps203
 go_wp2_with (first
  | (at_builtin; refine Lib.wpList_append_run _ rfl _ _ _ _ rfl _ _ rfl rfl _ _ (hr1.out _) ?_)
   | (at_builtin; refine Lib.wpList_append_run _ rfl _ _ _ _ rfl _ _ rfl rfl _ _ (hr2.out _) ?_))
 clear hr1 hr2
 obtain ⟨M, hM⟩ : ∃ M, Hid (8 * n = M) := ⟨_, rfl⟩
 have hMi : (n : Int) * 8 = (M : Int) := by have := hM.out; omega
 have hM1 : (M : Int) ≤ 1125899906840000 := by have := hM.out; omega
 rw [hM.out] at hpad
 go_loopw [3] (fun v wr => ∃ j : Nat, j ≤ z ∧ Hid (OwnY w.heap.size wr v (l ++ [128] ++ List.replicate j 0)) ∧ Hid (Below w.heap.size w wr)) (fun v _ => n + 100 - sliceLen v)
 case atStart => exact ⟨0, Nat.zero_le _, by rw [List.replicate_zero, List.append_nil]; exact ho2, hb2⟩
 case round =>
  obtain ⟨j, hj, ho, hb⟩ := hrel
  obtain ⟨aa, cc, rfl, hBS⟩ := BS.own ho.out.1 ho.out.2
  clear ho2 hb2
  have hNl : (l ++ [128] ++ List.replicate j 0).length = n + 1 + j := by have := hll.out; simp [this]; omega
  have hNl2 := Lib.hid hNl
  by_cases hlt : j < z
  · obtain ⟨v3, w3, hr3', ho3', hb3'⟩ := append_b1L (x := 0) ho.out hb.out.size hb.out (by decide) (by have := hz64.out.1; omega)
    have hr3 := Lib.hid hr3'; have ho3 := Lib.hid ho3'; have hb3 := Lib.hid hb3'
    clear hr3' ho3' hb3' hBS ho hb
    have hNm := hz64.out.2.2 j hlt
    rw [← hNl] at hNm
    generalize (l ++ [128] ++ List.replicate j 0).length = N at *
    have hNh := Lib.hid hNl
    have hrm : Int.tmod (N : Int) 64 = ((N % 64 : Nat) : Int) := by rw [Int.tmod_eq_emod_of_nonneg (by omega)]; omega
    generalize N % 64 = r at *
    have hne : ((r : Int) != 56) = true := by simp; omega
    have hN0 : (0 : Int) ≤ (N : Int) := by omega
    have hz64' := hz64.out.1
    clear hNl
    go_wp2_with (first
     | (at_builtin; refine Lib.wpList_append_run _ rfl _ _ _ _ rfl _ _ rfl rfl _ _ (hr3.out _) ?_))
    go_roundw
    case rel => exact ⟨j + 1, hlt, by rw [List.replicate_succ', ← List.append_assoc]; exact ho3, hb3⟩
    case measure =>
     obtain ⟨a3, c3, rfl, _⟩ := BS.own ho3.out.1 ho3.out.2
     have := hNh.out
     simp [sliceLen, hll.out]; omega
  · obtain rfl : j = z := by omega
    have hNm := hz64.out.2.1
    rw [← hNl] at hNm
    generalize hNg : (l ++ [128] ++ List.replicate j 0).length = N at hNm hNl hBS ho ⊢
    clear hNg
    have hrm : Int.tmod (N : Int) 64 = 56 := by rw [Int.tmod_eq_emod_of_nonneg (by omega)]; omega
    have hNh := Lib.hid hNl
    clear hBS hNl
    go_wp2_with fail
    go_loopw [3, 5] (fun v i wr => ∃ k : Nat, k ≤ 8 ∧ i = .int .i64 (7 - (k : Int)) ∧ Hid (OwnY w.heap.size wr v ((l ++ [128] ++ List.replicate j 0) ++ (Sha.be 8 M).take k)) ∧ Hid (Below w.heap.size w wr)) (fun _ i _ => ((intOf i) + 1).toNat)
    case atStart => exact ⟨0, by omega, rfl, by rw [List.take_zero, List.append_nil]; exact ho, hb⟩
    case round =>
     obtain ⟨k, hk, rfl, ho, hb⟩ := hrel
     by_cases hlt : k < 8
     · have k0 : (0 : Int) ≤ 7 - (k : Int) := by omega
       have k8 : (k : Int) ≤ 7 := by omega
       have k00 : (0 : Int) ≤ (k : Int) := by omega
       obtain ⟨b, hbe⟩ : ∃ b, Hid (M / 256 ^ (7 - k) % 256 = b) := ⟨_, rfl⟩
       have hbv : (M : Int) / 2 ^ (8 * (7 - k)) % 256 = (b : Int) := by
        have h : 256 ^ (7 - k) = 2 ^ (8 * (7 - k)) := (Nat.pow_mul 2 8 (7 - k)).symm
        rw [← hbe.out, h]
        push_cast
        rfl
       obtain ⟨v', W', hr, ho4, hb4⟩ := append_b1L (x := b) ho.out hb.out.size hb.out (by rw [← hbe.out]; exact Nat.mod_lt _ (by decide)) (by rw [List.length_append, hNl2.out, List.length_take]; have := hz64.out.1; omega)
       rw [← hbe.out, List.append_assoc _ _ [_], ← Sha.be8_take hlt] at ho4
       have hr' := Lib.hid hr; have ho4' := Lib.hid ho4; have hb4' := Lib.hid hb4
       clear hr ho4 hb4
       go_wp2_with (first
        | (at_builtin; refine Lib.wpList_append_run _ rfl _ _ _ _ rfl _ _ rfl rfl _ _ (hr'.out _) ?_))
       go_roundw
       case rel => exact ⟨k + 1, by omega, by go_num, ho4', hb4'⟩
       case measure => simp [intOf]; omega
     · obtain rfl : k = 8 := by omega
       have ho2 := ho.out
       rw [hpad.out _ rfl] at ho2
       have hfin : Hid (X (.returned u3) wr) := by rw [hXX.out]; exact ⟨_, rfl, ho2, hb.out⟩
       go_wp2_with fail
       exact hfin.out

end Go.Proofs.YtnonfdcbnkdmcaaGreatDoor

