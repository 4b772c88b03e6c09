/- Plain laws: division of 128 bits by 64, powers modulo P, signatures. No program. -/
import Derived.RowKit
namespace Grp

/-! ### Knuth's division -/
theorem mulD (q a b : Nat) : q * (a * 4294967296 + b) = (q * a) * 4294967296 + q * b := by rw [Nat.mul_add, Nat.mul_assoc]

structure Guess (u v a b q r : Nat) : Prop where
 sum : q * a + r = u
 ge : (u * 4294967296 + v) / (a * 4294967296 + b) ≤ q
 le : q ≤ 4294967297
 rl : r < 4294967296

section
variable {u v a b q r : Nat}

theorem guess_start (ha : 2147483648 ≤ a) (ha' : a < 4294967296) (hb : b < 4294967296) (hv : v < 4294967296) (hu : u < a * 4294967296 + b) : Guess u v a b (u / a) (u % a) := by
 have h1 : u / a * a + u % a = u := by rw [Nat.mul_comm]; exact Nat.div_add_mod u a
 have hm : u % a < a := Nat.mod_lt _ (by omega)
 refine ⟨h1, ?_, ?_, by omega⟩
 · have h2 := Nat.div_mul_le_self (u * 4294967296 + v) (a * 4294967296 + b)
   rw [mulD] at h2
   generalize (u * 4294967296 + v) / (a * 4294967296 + b) = m at *
   rw [Nat.le_div_iff_mul_le (by omega)]
   omega
 · have h3 : u / a < 4294967298 := by
    rw [Nat.div_lt_iff_lt_mul (by omega)]
    omega
   omega

theorem quo_lt (hv : v < 4294967296) (hu : u < a * 4294967296 + b) : (u * 4294967296 + v) / (a * 4294967296 + b) < 4294967296 := by
 rw [Nat.div_lt_iff_lt_mul (by omega)]
 obtain ⟨D, hD⟩ : ∃ D, a * 4294967296 + b = D := ⟨_, rfl⟩
 rw [hD] at hu ⊢
 omega

theorem guess_down (hv : v < 4294967296) (hu : u < a * 4294967296 + b) (G : Guess u v a b q r) (ht : 4294967296 ≤ q ∨ 4294967296 * r + v < q * b) :
 (u * 4294967296 + v) / (a * 4294967296 + b) < q := by
 rcases ht with h | h
 · have := quo_lt hv hu; omega
 · rw [Nat.div_lt_iff_lt_mul (by omega), mulD]
   have := G.sum
   omega

theorem guess_next (ha : 0 < q) (hlt : (u * 4294967296 + v) / (a * 4294967296 + b) < q) (G : Guess u v a b q r) (hr : r + a < 4294967296) : Guess u v a b (q - 1) (r + a) := by
 refine ⟨?_, by omega, by have := G.le; omega, hr⟩
 have := G.sum
 obtain ⟨p, rfl⟩ : ∃ p, q = p + 1 := ⟨q - 1, by omega⟩
 rw [Nat.add_mul] at this
 simp only [Nat.add_sub_cancel]
 omega

theorem guess_done (hu : u < a * 4294967296 + b) (G : Guess u v a b q r) (ht : q * b ≤ 4294967296 * r + v) : q = (u * 4294967296 + v) / (a * 4294967296 + b) := by
 have h1 : q ≤ (u * 4294967296 + v) / (a * 4294967296 + b) := by
  rw [Nat.le_div_iff_mul_le (by omega), mulD]
  have := G.sum
  omega
 have := G.ge
 omega

theorem guess_break (ha : 0 < q) (hb : b < 4294967296) (hu : u < a * 4294967296 + b) (hlt : (u * 4294967296 + v) / (a * 4294967296 + b) < q) (G : Guess u v a b q r) (hr : 4294967296 ≤ r + a) : q - 1 = (u * 4294967296 + v) / (a * 4294967296 + b) := by
 have h1 : q - 1 ≤ (u * 4294967296 + v) / (a * 4294967296 + b) := by
  rw [Nat.le_div_iff_mul_le (by omega), mulD]
  have h2 := G.sum
  have h3 := G.le
  obtain ⟨p, rfl⟩ : ∃ p, q = p + 1 := ⟨q - 1, by omega⟩
  rw [Nat.add_mul] at h2
  simp only [Nat.add_sub_cancel]
  have h4 : p * b ≤ 4294967296 * 4294967295 := Nat.mul_le_mul (by omega) (by omega)
  omega
 omega
end

theorem two_steps {hi lo y s u v0 v1 : Nat} (hu : u * 18446744073709551616 + (v1 * 4294967296 + v0) = (hi * 18446744073709551616 + lo) * 2 ^ s) (_hy : 0 < y) :
 ((u * 4294967296 + v1) % (y * 2 ^ s) * 4294967296 + v0) % (y * 2 ^ s) = (hi * 18446744073709551616 + lo) % y * 2 ^ s := by
 rw [show (hi * 18446744073709551616 + lo) % y * 2 ^ s = ((hi * 18446744073709551616 + lo) * 2 ^ s) % (y * 2 ^ s) from (Nat.mul_mod_mul_right _ _ _).symm, ← hu]
 have h1 : u * 18446744073709551616 + (v1 * 4294967296 + v0) = (u * 4294967296 + v1) * 4294967296 + v0 := by omega
 rw [h1]
 obtain ⟨D, hD⟩ : ∃ D, y * 2 ^ s = D := ⟨_, rfl⟩
 obtain ⟨X, hX⟩ : ∃ X, u * 4294967296 + v1 = X := ⟨_, rfl⟩
 rw [hD, hX]
 rw [Nat.add_mod, Nat.mul_mod, Nat.mod_mod, ← Nat.mul_mod, ← Nat.add_mod]

/-! ### powers -/
def P : Nat := 4611686018427377339
def Q : Nat := 2305843009213688669

theorem P_pos : 0 < P := by decide
theorem P_one : 1 < P := by decide

def step (a c : Nat) (b : Bool) : Nat := if b then (c * c % P) * a % P else c * c % P
def powL (a : Nat) (l : List Bool) : Nat := l.foldl (step a) 1
theorem powL_snoc (a : Nat) (l : List Bool) (b : Bool) : powL a (l ++ [b]) = step a (powL a l) b := by simp [powL]

def tops (k n j : Nat) : List Bool := (List.range j).map fun i => k.testBit (n - 1 - i)
theorem tops_succ (k n j : Nat) : tops k n (j + 1) = tops k n j ++ [k.testBit (n - 1 - j)] := by simp [tops, List.range_succ]
theorem tops_length (k n j : Nat) : (tops k n j).length = j := by simp [tops]

theorem mod_mul_mod (a b : Nat) : (a % P) * (b % P) % P = a * b % P := (Nat.mul_mod a b P).symm
theorem mod_mul (a b : Nat) : (a % P) * b % P = a * b % P := Nat.mod_mul_mod a b P

theorem step_pow (a e : Nat) (b : Bool) : step a (a ^ e % P) b = a ^ (2 * e + b.toNat) % P := by
 unfold step
 cases b
 · simp only [Bool.false_eq_true, if_false, Bool.toNat_false, Nat.add_zero]
   rw [mod_mul_mod, ← Nat.pow_add, show e + e = 2 * e by omega]
 · simp only [if_true, Bool.toNat_true]
   rw [mod_mul_mod, mod_mul, ← Nat.pow_add, show e + e = 2 * e by omega, Nat.pow_succ]

theorem shift_succ (k n j : Nat) (hj : j < n) : k / 2 ^ (n - (j + 1)) = 2 * (k / 2 ^ (n - j)) + (k.testBit (n - 1 - j)).toNat := by
 have e1 : n - (j + 1) = n - 1 - j := by omega
 have e2 : n - j = (n - 1 - j) + 1 := by omega
 rw [e1, e2, Nat.testBit_eq_decide_div_mod_eq, Nat.pow_succ, ← Nat.div_div_eq_div_mul]
 generalize k / 2 ^ (n - 1 - j) = x
 by_cases h : x % 2 = 1
 · rw [decide_eq_true h]; simp only [Bool.toNat_true]; omega
 · rw [decide_eq_false h]; simp only [Bool.toNat_false]; omega

theorem powL_tops (a k n : Nat) (hk : k < 2 ^ n) : ∀ j, j ≤ n → powL a (tops k n j) = a ^ (k / 2 ^ (n - j)) % P := by
 intro j
 induction j with
 | zero => intro _; rw [Nat.sub_zero, Nat.div_eq_of_lt hk]; rfl
 | succ j ih =>
  intro hj
  rw [tops_succ, powL_snoc, ih (by omega), step_pow, ← shift_succ k n j (by omega)]

theorem powL_all (a k n : Nat) (hk : k < 2 ^ n) : powL a (tops k n n) = a ^ k % P := by
 rw [powL_tops a k n hk n (Nat.le_refl _)]; simp

def pw (a k : Nat) : Nat := a ^ k % P
theorem pw_lt (a k : Nat) : pw a k < P := Nat.mod_lt _ P_pos
theorem pw_eq (a k n : Nat) (h : k < 2 ^ n) : pw a k = powL a (tops k n n) := (powL_all a k n h).symm
theorem base_ord : pw 4 Q = 1 := (pw_eq 4 Q 62 (by decide +kernel)).trans (by decide +kernel)

theorem pw_pw (a k e : Nat) : pw (pw a k) e = pw a (k * e) := by
 unfold pw; rw [← Nat.pow_mod, ← Nat.pow_mul]
theorem pw_add (a k e : Nat) : pw a (k + e) = pw a k * pw a e % P := by
 unfold pw; rw [Nat.pow_add, mod_mul_mod]
theorem pw_one_of {a : Nat} (h : pw a Q = 1) (k : Nat) : pw a (Q * k) = 1 := by
 rw [← pw_pw, h]; unfold pw; rw [Nat.one_pow]; decide
theorem pw_mod {a : Nat} (h : pw a Q = 1) (k : Nat) : pw a (k % Q) = pw a k := by
 have e := Nat.div_add_mod k Q
 have h1 : pw a (Q * (k / Q) + k % Q) = pw a (k % Q) := by
  rw [pw_add, pw_one_of h, Nat.one_mul]; exact Nat.mod_eq_of_lt (pw_lt _ _)
 rw [e] at h1; exact h1.symm
theorem signed (x k m : Nat) : pw 4 ((k + m * x % Q) % Q) = pw 4 k * pw (pw 4 x) m % P := by
 rw [pw_mod base_ord, pw_add]
 rw [pw_mod base_ord (m * x), pw_pw, Nat.mul_comm m x]

end Grp

