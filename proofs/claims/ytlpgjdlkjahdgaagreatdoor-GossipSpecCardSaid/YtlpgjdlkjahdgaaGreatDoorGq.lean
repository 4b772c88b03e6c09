/- SHA-256 in a form that the kernel reckons fast, and that it is the same; no program the directory's digests, plainly; and that the two of the chapter's example differ (reckoned by the kernel); no program -/
import Derived.Test.YtlpgjdlkjahdgaaGreatDoorShaPlain
import Derived.KernelRfl
import Derived.Test.YtlpgjdlkjahdgaaGreatDoorDrD
namespace Sha
def force {α : Type} (n : Nat) (f : Nat → α) : α := match n with | 0 => f 0 | m + 1 => f (Nat.succ m)
theorem force_eq {α : Type} (n : Nat) (f : Nat → α) : force n f = f n := by cases n <;> rfl
def r3F (x a b c : Nat) : Nat := force (Nat.mul x 4294967297) fun y => Nat.mod (Nat.xor (Nat.xor (Nat.shiftRight y a) (Nat.shiftRight y b)) (Nat.shiftRight y c)) 4294967296
def r2F (x a b c : Nat) : Nat := force (Nat.mul x 4294967297) fun y => Nat.xor (Nat.mod (Nat.xor (Nat.shiftRight y a) (Nat.shiftRight y b)) 4294967296) (Nat.shiftRight x c)
def rndsF : List Nat → List Nat → Nat → Nat → Nat → Nat → Nat → Nat → Nat → Nat → St
  | k :: ks, w :: ws, a, b, c, d, e, f, g, h =>
    force (Nat.add (Nat.add (Nat.add (Nat.add h (r3F e 6 11 25)) (Nat.xor g (Nat.land e (Nat.xor f g)))) k) w) fun p =>
    force (Nat.mod (Nat.add d p) 4294967296) fun e' =>
    force (Nat.mod (Nat.add p (Nat.add (r3F a 2 13 22) (Nat.lor (Nat.land a b) (Nat.land c (Nat.lor a b))))) 4294967296) fun a' =>
    rndsF ks ws a' a b c e' e f g
  | _, _, a, b, c, d, e, f, g, h => ⟨a, b, c, d, e, f, g, h⟩
/-- the schedule behind its last sixteen words. -/
def extF : Nat → Nat → Nat → Nat → Nat → Nat → Nat → Nat → Nat → Nat → Nat → Nat → Nat → Nat → Nat → Nat → Nat → List Nat
  | 0, _, _, _, _, _, _, _, _, _, _, _, _, _, _, _, _ => []
  | n + 1, a, b, c, d, e, f, g, h, i, j, k, l, m, o, p, q =>
    force (Nat.mod (Nat.add (Nat.add (Nat.add a (r2F b 7 18 3)) j) (r2F p 17 19 10)) 4294967296) fun x =>
    x :: extF n b c d e f g h i j k l m o p q x
def plusF (s r : St) : St :=
  match s, r with
  | ⟨sa, sb, sc, sd, se, sf, sg, sh⟩, ⟨ra, rb, rc, rd, re, rf, rg, rh⟩ =>
    force (Nat.mod (Nat.add sa ra) 4294967296) fun a => force (Nat.mod (Nat.add sb rb) 4294967296) fun b => force (Nat.mod (Nat.add sc rc) 4294967296) fun c => force (Nat.mod (Nat.add sd rd) 4294967296) fun d =>
    force (Nat.mod (Nat.add se re) 4294967296) fun e => force (Nat.mod (Nat.add sf rf) 4294967296) fun f => force (Nat.mod (Nat.add sg rg) 4294967296) fun g => force (Nat.mod (Nat.add sh rh) 4294967296) fun h =>
    ⟨a, b, c, d, e, f, g, h⟩
theorem plusF_eq (s r : St) : plusF s r = plus s r := by
  obtain ⟨sa, sb, sc, sd, se, sf, sg, sh⟩ := s
  obtain ⟨ra, rb, rc, rd, re, rf, rg, rh⟩ := r
  simp only [plusF, force_eq, plus]
  rfl
def rndsS (s : St) (l : List Nat) : St := match s with | ⟨a, b, c, d, e, f, g, h⟩ => rndsF K l a b c d e f g h
def extS : List Nat → List Nat
  | a :: b :: c :: d :: e :: f :: g :: h :: i :: j :: k :: l :: m :: o :: p :: q :: _ => extF 48 a b c d e f g h i j k l m o p q
  | _ => []
def compF (s : St) (l : List Nat) : St := plusF s (rndsS s (l ++ extS l))

theorem ror_sum (x r : Nat) (hx : x < 4294967296) (h0 : 0 < r) (hr : r < 32) : Nat.mod (Nat.shiftRight (Nat.mul x 4294967297) r) 4294967296 = ror x r := by
  show ((x * 4294967297) >>> r) % 4294967296 = ror x r
  have hp : 0 < 2 ^ r := Nat.two_pow_pos r
  have hq : 0 < 2 ^ (32 - r) := Nat.two_pow_pos _
  have hpq : 2 ^ r * 2 ^ (32 - r) = 4294967296 := by rw [← Nat.pow_add, show r + (32 - r) = 32 by omega]
  unfold ror
  rw [Nat.shiftRight_eq_div_pow, Nat.shiftRight_eq_div_pow, Nat.shiftLeft_eq]
  generalize 2 ^ r = p at *
  have hp2 : ∃ n, 2 ^ (32 - r) = 2 ^ n ∧ n = 32 - r := ⟨_, rfl, rfl⟩
  obtain ⟨n, hn, -⟩ := hp2
  rw [hn] at hpq hq ⊢
  have hd := Nat.div_add_mod x p
  have hm := Nat.mod_lt x hp
  generalize x / p = y at *
  generalize x % p = z at *
  subst hd
  have hz : z * 2 ^ n < 4294967296 := by rw [← hpq]; exact Nat.mul_lt_mul_of_pos_right hm hq
  have hy : y < 2 ^ n := by
    refine Nat.lt_of_mul_lt_mul_left (a := p) ?_
    rw [hpq]; omega
  have e1 : (p * y + z) * 2 ^ n = 4294967296 * y + 2 ^ n * z := by rw [Nat.add_mul, ← hpq, Nat.mul_comm z, Nat.mul_right_comm]
  have e2 : (p * y + z) * 4294967297 / p = (p * y + z) * 2 ^ n + y := by
    have : (p * y + z) * 4294967297 = z + p * ((p * y + z) * 2 ^ n + y) := by
      rw [show (4294967297 : Nat) = p * 2 ^ n + 1 by omega, Nat.mul_add, Nat.mul_add, Nat.mul_one, Nat.mul_left_comm (p * y + z) p]
      omega
    rw [this, Nat.add_mul_div_left _ _ hp, Nat.div_eq_of_lt hm, Nat.zero_add]
  rw [e2, e1, Nat.mul_comm z] at *
  have h3 : (4294967296 * y + 2 ^ n * z) % 4294967296 = 2 ^ n * z := by omega
  rw [h3, ← Nat.two_pow_add_eq_or_of_lt hy]
  have h4 : 2 ^ n * z + y < 4294967296 := by
    have : 2 ^ n * (z + 1) ≤ 2 ^ n * p := Nat.mul_le_mul_left _ hm
    rw [Nat.mul_comm _ p, hpq, Nat.mul_add, Nat.mul_one] at this
    omega
  omega
theorem r3F_eq (x a b c : Nat) (hx : x < 4294967296) (ha : 0 < a ∧ a < 32) (hb : 0 < b ∧ b < 32) (hc : 0 < c ∧ c < 32) : r3F x a b c = rot3 x a b c := by
  unfold r3F rot3
  rw [force_eq, ← ror_sum x a hx ha.1 ha.2, ← ror_sum x b hx hb.1 hb.2, ← ror_sum x c hx hc.1 hc.2]
  show (_ ^^^ _ ^^^ _) % 2 ^ 32 = _
  rw [Nat.xor_mod_two_pow, Nat.xor_mod_two_pow]
  rfl
theorem r2F_eq (x a b c : Nat) (hx : x < 4294967296) (ha : 0 < a ∧ a < 32) (hb : 0 < b ∧ b < 32) : r2F x a b c = (ror x a ^^^ ror x b) ^^^ x >>> c := by
  unfold r2F
  rw [force_eq, ← ror_sum x a hx ha.1 ha.2, ← ror_sum x b hx hb.1 hb.2]
  show ((_ ^^^ _) % 2 ^ 32) ^^^ _ = _
  rw [Nat.xor_mod_two_pow]
  rfl
theorem ss0F (x : Nat) (hx : x < 4294967296) : r2F x 7 18 3 = ss0 x := by rw [r2F_eq x 7 18 3 hx (by decide) (by decide), Nat.shiftRight_eq_div_pow]; rfl
theorem ss1F (x : Nat) (hx : x < 4294967296) : r2F x 17 19 10 = ss1 x := by rw [r2F_eq x 17 19 10 hx (by decide) (by decide), Nat.shiftRight_eq_div_pow]; rfl
theorem rndsF_eq : ∀ (ks ws : List Nat) (s : St), s.Ok → rndsF ks ws s.a s.b s.c s.d s.e s.f s.g s.h = rnds s ks ws
  | [], ws, s, _ => by cases s; cases ws <;> rfl
  | k :: ks, [], s, _ => by cases s; rfl
  | k :: ks, w :: ws, s, h => by
    rw [rnds_cons, ← rndsF_eq ks ws _ (rnd_ok h k w)]
    conv => lhs; unfold rndsF
    rw [force_eq, force_eq, force_eq, r3F_eq s.e 6 11 25 h.e (by decide) (by decide) (by decide), r3F_eq s.a 2 13 22 h.a (by decide) (by decide) (by decide)]
    have e1 : Nat.add (Nat.add (Nat.add (Nat.add s.h (rot3 s.e 6 11 25)) (Nat.xor s.g (Nat.land s.e (Nat.xor s.f s.g)))) k) w = s.h + rot3 s.e 6 11 25 + ch s.e s.f s.g + k + w := rfl
    have e2 : Nat.add (rot3 s.a 2 13 22) (Nat.lor (Nat.land s.a s.b) (Nat.land s.c (Nat.lor s.a s.b))) = rot3 s.a 2 13 22 + maj s.a s.b s.c := rfl
    rw [e1, e2]
    have e3 : Nat.mod (Nat.add s.d (s.h + rot3 s.e 6 11 25 + ch s.e s.f s.g + k + w)) 4294967296 = (s.d + pp s k w) % 4294967296 := by
      show (s.d + _) % 4294967296 = _
      unfold pp; omega
    have e4 : Nat.mod (Nat.add (s.h + rot3 s.e 6 11 25 + ch s.e s.f s.g + k + w) (rot3 s.a 2 13 22 + maj s.a s.b s.c)) 4294967296 = (pp s k w + qq s) % 4294967296 := by
      show (_ + _) % 4294967296 = _
      unfold pp qq; omega
    rw [e3, e4]
    rfl
theorem extF_eq : ∀ (n : Nat) (pre : List Nat) (a b c d e f g h i j k l m o p q : Nat), b < 4294967296 → c < 4294967296 → d < 4294967296 → e < 4294967296 → f < 4294967296 → g < 4294967296 → h < 4294967296 → i < 4294967296 → j < 4294967296 → k < 4294967296 → l < 4294967296 → m < 4294967296 → o < 4294967296 → p < 4294967296 → q < 4294967296 →
    ext n (pre ++ [a, b, c, d, e, f, g, h, i, j, k, l, m, o, p, q]) = pre ++ [a, b, c, d, e, f, g, h, i, j, k, l, m, o, p, q] ++ extF n a b c d e f g h i j k l m o p q
  | 0, pre, a, b, c, d, e, f, g, h, i, j, k, l, m, o, p, q, _, _, _, _, _, _, _, _, _, _, _, _, _, _, _ => by simp [ext, extF]
  | n + 1, pre, a, b, c, d, e, f, g, h, i, j, k, l, m, o, p, q, hb, hc, hd, he, hf, hg, hh, hi, hj, hk, hl, hm, ho, hp, hq => by
    have hn : next (pre ++ [a, b, c, d, e, f, g, h, i, j, k, l, m, o, p, q]) = (a + ss0 b + j + ss1 p) % 4294967296 := by
      unfold next get
      simp only [List.length_append, List.length_cons, List.length_nil, List.getD_eq_getElem?_getD]
      rw [List.getElem?_append_right (by omega), List.getElem?_append_right (by omega), List.getElem?_append_right (by omega), List.getElem?_append_right (by omega)]
      rw [show pre.length + (0 + 1 + 1 + 1 + 1 + 1 + 1 + 1 + 1 + 1 + 1 + 1 + 1 + 1 + 1 + 1 + 1) - 16 - pre.length = 0 by omega, show pre.length + (0 + 1 + 1 + 1 + 1 + 1 + 1 + 1 + 1 + 1 + 1 + 1 + 1 + 1 + 1 + 1 + 1) - 15 - pre.length = 1 by omega, show pre.length + (0 + 1 + 1 + 1 + 1 + 1 + 1 + 1 + 1 + 1 + 1 + 1 + 1 + 1 + 1 + 1 + 1) - 7 - pre.length = 9 by omega, show pre.length + (0 + 1 + 1 + 1 + 1 + 1 + 1 + 1 + 1 + 1 + 1 + 1 + 1 + 1 + 1 + 1 + 1) - 2 - pre.length = 14 by omega]
      rfl
    have hx : (a + ss0 b + j + ss1 p) % 4294967296 < 4294967296 := Nat.mod_lt _ (by decide)
    have ih := extF_eq n (pre ++ [a]) b c d e f g h i j k l m o p q ((a + ss0 b + j + ss1 p) % 4294967296) hc hd he hf hg hh hi hj hk hl hm ho hp hq hx
    rw [ext, hn]
    have e1 : extF (n + 1) a b c d e f g h i j k l m o p q = ((a + ss0 b + j + ss1 p) % 4294967296) :: extF n b c d e f g h i j k l m o p q ((a + ss0 b + j + ss1 p) % 4294967296) := by
      conv => lhs; unfold extF
      rw [force_eq, ss0F b hb, ss1F p hp]
      rfl
    rw [e1]
    generalize (a + ss0 b + j + ss1 p) % 4294967296 = x at *
    simp only [List.append_assoc, List.cons_append, List.nil_append] at ih ⊢
    exact ih
theorem rndsS_eq {s : St} (hs : s.Ok) (l : List Nat) : rndsS s l = rnds s K l := by
  obtain ⟨sa, sb, sc, sd, se, sf, sg, sh⟩ := s
  exact rndsF_eq K l _ hs
theorem extS_eq {l : List Nat} (hl : l.length = 16) (h : ∀ x ∈ l, x < 4294967296) : ext 48 l = l ++ extS l := by
  match l, hl, h with
  | [a, b, c, d, e, f, g, h, i, j, k, l, m, o, p, q], _, hl =>
    simp only [List.mem_cons, List.not_mem_nil, or_false, forall_eq_or_imp, forall_eq] at hl
    obtain ⟨-, hb, hc, hd, he, hf, hg, hh, hi, hj, hk, hl, hm, ho, hp, hq⟩ := hl
    have h1 := extF_eq 48 [] a b c d e f g h i j k l m o p q hb hc hd he hf hg hh hi hj hk hl hm ho hp hq
    rw [List.nil_append] at h1
    exact h1
theorem compF_eq {s : St} (hs : s.Ok) {blk ws : List Nat} (hw : words blk = ws) (hl : ∀ x ∈ ws, x < 4294967296) : comp s blk = compF s ws := by
  have hlen : ws.length = 16 := by rw [← hw]; simp [words]
  unfold comp compF
  rw [hw, extS_eq hlen hl, plusF_eq, rndsS_eq hs]
end Sha
namespace Sha
def bytes (ws : List Nat) : List Nat := ws.flatMap (be 4)
def W (s : St) : List Nat := [s.a, s.b, s.c, s.d, s.e, s.f, s.g, s.h]
theorem out_bytes (s : St) : out s = bytes (W s) := by simp [out, bytes, W, List.append_assoc]
theorem W_lt {s : St} (h : s.Ok) : ∀ x ∈ W s, x < 4294967296 := by
  simp only [W, List.mem_cons, List.not_mem_nil, or_false, forall_eq_or_imp, forall_eq]
  exact ⟨h.a, h.b, h.c, h.d, h.e, h.f, h.g, h.h⟩
theorem bytes_length (ws : List Nat) : (bytes ws).length = 4 * ws.length := by
  induction ws with
  | nil => rfl
  | cons w ws ih => rw [show bytes (w :: ws) = be 4 w ++ bytes ws from rfl, List.length_append, be_length, ih, List.length_cons]; omega
theorem bytes_app (a b : List Nat) : bytes (a ++ b) = bytes a ++ bytes b := by simp [bytes]
theorem be4 (w : Nat) : be 4 w = [w / 16777216 % 256, w / 65536 % 256, w / 256 % 256, w % 256] := by
  simp [be, List.range_succ]
theorem word_bytes : ∀ (ws : List Nat) (t x : Nat), (∀ y ∈ ws, y < 4294967296) → ws[t]? = some x → word (bytes ws) (4 * t) = x
  | [], t, x, _, h => by simp at h
  | w :: ws, 0, x, hl, h => by
    have hw := hl w (by simp)
    simp only [List.getElem?_cons_zero, Option.some.injEq] at h
    subst h
    rw [show bytes (w :: ws) = be 4 w ++ bytes ws from rfl, be4]
    simp only [word, get, List.cons_append, List.getD_cons_zero, Nat.mul_zero, Nat.zero_add, List.getD_cons_succ, List.nil_append]
    omega
  | w :: ws, t + 1, x, hl, h => by
    rw [← word_bytes ws t x (fun y hy => hl y (by simp [hy])) (by simpa using h), show bytes (w :: ws) = be 4 w ++ bytes ws from rfl, be4]
    simp only [word, get, Nat.mul_add, Nat.mul_one, List.cons_append, List.nil_append, show 4 * t + 4 + 1 = 4 * t + 1 + 4 by omega, show 4 * t + 4 + 2 = 4 * t + 2 + 4 by omega, show 4 * t + 4 + 3 = 4 * t + 3 + 4 by omega, List.getD_cons_succ]
theorem words_bytes {ws : List Nat} (h : ws.length = 16) (hl : ∀ y ∈ ws, y < 4294967296) : words (bytes ws) = ws := by
  apply List.ext_getElem?
  intro t
  unfold words
  rw [List.getElem?_map]
  by_cases ht : t < 16
  · rw [List.getElem?_range ht, Option.map_some, List.getElem?_eq_getElem (by omega), word_bytes ws t (ws[t]'(by omega)) hl (List.getElem?_eq_getElem (by omega))]
  · rw [List.getElem?_eq_none (by simp; omega), List.getElem?_eq_none (by omega)]; rfl
theorem comp_bytes {s : St} (hs : s.Ok) {ws : List Nat} (h : ws.length = 16) (hl : ∀ y ∈ ws, y < 4294967296) : comp s (bytes ws) = compF s ws :=
  compF_eq hs (words_bytes h hl) hl
theorem compF_ok {s : St} (hs : s.Ok) {ws : List Nat} (h : ws.length = 16) (hl : ∀ y ∈ ws, y < 4294967296) : (compF s ws).Ok := by
  rw [← comp_bytes hs h hl]; exact comp_ok _ _
theorem blocks_one (s : St) {l : List Nat} (h : l.length = 64) : blocks 1 s l = comp s l := by
  rw [blocks, blocks, List.take_of_length_le (by omega)]
/-- a message of one block. -/
theorem sum_one {l ws : List Nat} (hn : l.length ≤ 55) (h : ws.length = 16) (hl : ∀ y ∈ ws, y < 4294967296) (e : tail l l.length = bytes ws) : sum l = out (compF start ws) := by
  unfold sum
  simp only []
  rw [show l.length / 64 = 0 by omega, Nat.zero_mul, List.drop_zero, e, bytes_length, h]
  rw [show 4 * 16 / 64 = 1 from rfl, blocks_one _ (by rw [bytes_length, h]), blocks, comp_bytes start_ok h hl]
/-- a message of two blocks. -/
theorem sum_two {l a b ws : List Nat} (hl : l = bytes a ++ b) (ha : a.length = 16) (hla : ∀ y ∈ a, y < 4294967296) (hb : b.length ≤ 55) (h : ws.length = 16) (hlw : ∀ y ∈ ws, y < 4294967296) (e : tail b l.length = bytes ws) :
    sum l = out (compF (compF start a) ws) := by
  have h64 : (bytes a).length = 64 := by rw [bytes_length, ha]
  have hn : l.length = 64 + b.length := by rw [hl, List.length_append, h64]
  unfold sum
  simp only []
  rw [show l.length / 64 = 1 by omega, show l.drop (1 * 64) = b by rw [hl, List.drop_append_of_le_length (by omega), List.drop_of_length_le (by omega), List.nil_append], e, bytes_length, h]
  rw [show 4 * 16 / 64 = 1 from rfl, blocks_one _ (by rw [bytes_length, h]), blocks, blocks, hl, List.take_append_of_le_length (by omega), List.take_of_length_le (by omega), comp_bytes start_ok ha hla, comp_bytes (compF_ok start_ok ha hla) h hlw]
end Sha
namespace Go.Dr
/-! ### reckoned -/
open Sha
def tE : Sha.St := ⟨773651074, 2956313196, 3149770339, 753534725, 350980983, 1063348910, 2942733871, 199815437⟩
def tP : Sha.St := ⟨1205386566, 2272801228, 3592166650, 3378695489, 1136427404, 2103431320, 2649026657, 3462411550⟩
def s1 : Sha.St := ⟨512210543, 2252203306, 2939514433, 3990738441, 1878454157, 881617783, 1341584025, 1007265015⟩
def noneF (d : Nat) : Sha.St := Sha.force d fun d => compF start [773651074, 2956313196, 3149770339, 753534725, 350980983, 1063348910, 2942733871, 199815437, 0, d, 2147483648, 0, 0, 0, 0, 320]
def pairF (a b : Sha.St) : Sha.St := match a, b with
  | ⟨a0, a1, a2, a3, a4, a5, a6, a7⟩, ⟨b0, b1, b2, b3, b4, b5, b6, b7⟩ =>
    compF (compF start [1205386566, 2272801228, 3592166650, 3378695489, 1136427404, 2103431320, 2649026657, 3462411550, a0, a1, a2, a3, a4, a5, a6, a7]) [b0, b1, b2, b3, b4, b5, b6, b7, 2147483648, 0, 0, 0, 0, 0, 0, 768]
def nodeF (lf : Nat → Sha.St) : Nat → Nat → Sha.St
  | 0, n => lf (Nat.sub n 512)
  | d + 1, n => pairF (nodeF lf d (Nat.mul 2 n)) (nodeF lf d (Nat.add (Nat.mul 2 n) 1))
theorem tE_eq : Sha.sum [101, 109, 112, 116, 121] = bytes (W tE) := by kernel_rfl
theorem tP_eq : Sha.sum [112, 97, 105, 114] = bytes (W tP) := by kernel_rfl
theorem s1_eq : bytes (W s1) = listD ⟨1, 4, 4, 1, false⟩ := by kernel_rfl
theorem s1_ok : s1.Ok := by constructor <;> decide
theorem num8_nat {d : Nat} (h : d < 4294967296) : num8 d = bytes [0, d] := by
  unfold num8
  rw [show ((d : Int) % 18446744073709551616).toNat = d by omega]
  rw [show bytes [0, d] = be 4 0 ++ (be 4 d ++ []) from rfl, be4, be4]
  simp only [Sha.be, List.range_succ, List.range_zero, List.nil_append, List.map_cons, List.map_nil, List.cons_append, List.append_nil]
  rw [show (256 : Nat) ^ (8 - 1 - 0) = 72057594037927936 by decide, show (256 : Nat) ^ (8 - 1 - 1) = 281474976710656 by decide, show (256 : Nat) ^ (8 - 1 - 2) = 1099511627776 by decide, show (256 : Nat) ^ (8 - 1 - 3) = 4294967296 by decide, show (256 : Nat) ^ (8 - 1 - 4) = 16777216 by decide, show (256 : Nat) ^ (8 - 1 - 5) = 65536 by decide, show (256 : Nat) ^ (8 - 1 - 6) = 256 by decide, show (256 : Nat) ^ (8 - 1 - 7) = 1 by decide, Nat.div_one]
  rw [Nat.div_eq_of_lt (show d < 72057594037927936 by omega), Nat.div_eq_of_lt (show d < 281474976710656 by omega), Nat.div_eq_of_lt (show d < 1099511627776 by omega), Nat.div_eq_of_lt h]
theorem bytes_lit : bytes [0x80000000, 0, 0, 0, 0, 320] = [0x80] ++ List.replicate 15 0 ++ be 8 (8 * 40) := by kernel_rfl
theorem bytes_lit2 : bytes [0x80000000, 0, 0, 0, 0, 0, 0, 768] = [0x80] ++ List.replicate 23 0 ++ be 8 (8 * 96) := by kernel_rfl
theorem lt_of_all {l : List Nat} (h : (l.all fun x => decide (x < 4294967296)) = true) : ∀ x ∈ l, x < 4294967296 := fun x hx => of_decide_eq_true (List.all_eq_true.1 h x hx)
theorem noneF_eq {d : Nat} (h : d < 4294967296) : out (noneF d) = noneD d ∧ (noneF d).Ok := by
  unfold noneF
  rw [Sha.force_eq]
  have hl : ∀ y ∈ [773651074, 2956313196, 3149770339, 753534725, 350980983, 1063348910, 2942733871, 199815437, 0, d, 2147483648, 0, 0, 0, 0, 320], y < 4294967296 := by
    refine lt_of_all ?_
    simp only [List.all_cons, List.all_nil, decide_eq_true h]
    rfl
  refine ⟨?_, compF_ok start_ok rfl hl⟩
  unfold noneD Sha.tagged
  rw [num8_nat h, tE_eq, ← bytes_app]
  refine (sum_one (by rw [bytes_length]; exact (by decide : 4 * 10 ≤ 55)) rfl hl ?_).symm
  have hlen : (bytes (W tE ++ [0, d])).length = 40 := by rw [bytes_length]; rfl
  unfold Sha.tail
  rw [hlen]
  show bytes (W tE ++ [0, d]) ++ [0x80] ++ List.replicate 15 0 ++ be 8 (8 * 40) = bytes ((W tE ++ [0, d]) ++ [0x80000000, 0, 0, 0, 0, 320])
  rw [bytes_app (W tE ++ [0, d]), bytes_lit]
  simp only [List.append_assoc]
theorem pairF_eq {a b : Sha.St} (ha : a.Ok) (hb : b.Ok) : out (pairF a b) = pairD (out a) (out b) ∧ (pairF a b).Ok := by
  have wa := W_lt ha
  have wb := W_lt hb
  have e : pairF a b = compF (compF start (W tP ++ W a)) (W b ++ [0x80000000, 0, 0, 0, 0, 0, 0, 768]) := by cases a; cases b; rfl
  have hla : ∀ y ∈ W tP ++ W a, y < 4294967296 := by
    intro y hy
    rcases List.mem_append.1 hy with hy | hy
    · exact lt_of_all (l := W tP) (by rfl) y hy
    · exact wa y hy
  have hlb : ∀ y ∈ W b ++ [0x80000000, 0, 0, 0, 0, 0, 0, 768], y < 4294967296 := by
    intro y hy
    rcases List.mem_append.1 hy with hy | hy
    · exact wb y hy
    · exact lt_of_all (l := [0x80000000, 0, 0, 0, 0, 0, 0, 768]) (by rfl) y hy
  rw [e]
  refine ⟨?_, compF_ok (compF_ok start_ok rfl hla) rfl hlb⟩
  unfold pairD Sha.tagged
  rw [tP_eq, out_bytes a, out_bytes b, ← List.append_assoc, ← bytes_app]
  refine (sum_two (b := bytes (W b)) rfl rfl hla (by rw [bytes_length]; exact (by decide : 4 * 8 ≤ 55)) rfl hlb ?_).symm
  have hlen : (bytes (W tP ++ W a) ++ bytes (W b)).length = 96 := by rw [List.length_append, bytes_length, bytes_length]; rfl
  have hlb' : (bytes (W b)).length = 32 := by rw [bytes_length]; rfl
  unfold Sha.tail
  rw [hlen, hlb', bytes_app, bytes_lit2]
  simp only [List.append_assoc]
  rfl
theorem nodeF_eq {l : List Lst} {lf : Nat → Sha.St} (h : ∀ i, i < 512 → out (lf i) = leafD l i ∧ (lf i).Ok) : ∀ (d n : Nat), 512 ≤ n * 2 ^ d → (n + 1) * 2 ^ d ≤ 1024 → out (nodeF lf d n) = nodeD l d n ∧ (nodeF lf d n).Ok
  | 0, n, h1, h2 => by
    rw [Nat.pow_zero, Nat.mul_one] at h1 h2
    have := h (n - 512) (by omega)
    unfold nodeF nodeD
    rw [show (n : Int) - 512 = ((n - 512 : Nat) : Int) by omega]
    exact this
  | d + 1, n, h1, h2 => by
    rw [Nat.pow_succ] at h1 h2
    have a := nodeF_eq h d (2 * n) (by rw [Nat.mul_comm 2 n, Nat.mul_assoc, Nat.mul_comm 2]; exact h1) (by
      refine Nat.le_trans ?_ h2
      rw [Nat.mul_comm (2 ^ d), ← Nat.mul_assoc]
      exact Nat.mul_le_mul_right _ (by omega))
    have b := nodeF_eq h d (2 * n + 1) (by
      refine Nat.le_trans h1 ?_
      rw [Nat.mul_comm (2 ^ d), ← Nat.mul_assoc]
      exact Nat.mul_le_mul_right _ (by omega)) (by rw [show 2 * n + 1 + 1 = (n + 1) * 2 by omega, Nat.mul_assoc, Nat.mul_comm 2]; exact h2)
    have p := pairF_eq a.2 b.2
    rw [a.1, b.1] at p
    exact p
def lf0 (i : Nat) : Sha.St := noneF i
def lf1 (i : Nat) : Sha.St := match i with | 1 => s1 | i => noneF i
theorem lf0_eq (i : Nat) (h : i < 512) : out (lf0 i) = leafD [] i ∧ (lf0 i).Ok := noneF_eq (by omega)
theorem lf1_eq (i : Nat) (h : i < 512) : out (lf1 i) = leafD [⟨1, 4, 4, 1, false⟩] i ∧ (lf1 i).Ok := by
  by_cases h1 : i = 1
  · subst h1
    exact ⟨(out_bytes s1).trans s1_eq, s1_ok⟩
  · have e : lf1 i = noneF i := by
      unfold lf1
      split
      · exact absurd rfl h1
      · rfl
    have e2 : leafD [⟨1, 4, 4, 1, false⟩] i = noneD i := by
      unfold leafD ofL
      rw [List.find?_cons_of_neg (by simp; omega)]
      rfl
    rw [e, e2]
    exact noneF_eq (by omega)
theorem p4_32 : nodeF lf0 4 32 = ⟨864495147, 1835406810, 2459626458, 2534942020, 2716081145, 356790288, 1073477141, 3230695196⟩ := by kernel_rfl
theorem p4_33 : nodeF lf0 4 33 = ⟨1974539075, 3895770576, 3482887881, 1422255131, 31207925, 994864096, 3866455582, 439685524⟩ := by kernel_rfl
theorem p4_34 : nodeF lf0 4 34 = ⟨2162361538, 599781992, 4033270550, 2093393289, 2751473875, 2467612848, 3681329216, 742495031⟩ := by kernel_rfl
theorem p4_35 : nodeF lf0 4 35 = ⟨2903556045, 1798259519, 3651101135, 2143643196, 504896697, 2269002246, 4159766926, 2486765237⟩ := by kernel_rfl
theorem p4_36 : nodeF lf0 4 36 = ⟨294024347, 4128488234, 3527956745, 589662332, 1967287869, 476114070, 1320044804, 1152771863⟩ := by kernel_rfl
theorem p4_37 : nodeF lf0 4 37 = ⟨240009417, 1129199173, 3466687897, 2434183207, 3132956971, 743035082, 335934424, 950463865⟩ := by kernel_rfl
theorem p4_38 : nodeF lf0 4 38 = ⟨73763146, 2590398635, 848932624, 2081106601, 2050333101, 3842904836, 154387612, 311866084⟩ := by kernel_rfl
theorem p4_39 : nodeF lf0 4 39 = ⟨2845491559, 3676109987, 2728494059, 1151133287, 3693168811, 1517354716, 1719202769, 1615051101⟩ := by kernel_rfl
theorem p4_40 : nodeF lf0 4 40 = ⟨1092759313, 2732783691, 1690112934, 3023260400, 511102397, 1255629119, 2777128457, 4044330999⟩ := by kernel_rfl
theorem p4_41 : nodeF lf0 4 41 = ⟨2610498113, 3390594596, 3067620658, 2980662090, 702832236, 1629299970, 3907336976, 2628150760⟩ := by kernel_rfl
theorem p4_42 : nodeF lf0 4 42 = ⟨549692022, 543058324, 3540389282, 4148901827, 3985738694, 700965559, 3031659062, 2972797665⟩ := by kernel_rfl
theorem p4_43 : nodeF lf0 4 43 = ⟨7780685, 2513594766, 1481748894, 896065454, 2447701419, 1038678649, 301698474, 1422982732⟩ := by kernel_rfl
theorem p4_44 : nodeF lf0 4 44 = ⟨1796278943, 1810871913, 1886992007, 3927543669, 718088702, 2295871805, 4203630506, 33376554⟩ := by kernel_rfl
theorem p4_45 : nodeF lf0 4 45 = ⟨3008845873, 2275590644, 3006371677, 1298423778, 1533288624, 2046843358, 2894354772, 3966280120⟩ := by kernel_rfl
theorem p4_46 : nodeF lf0 4 46 = ⟨3367617383, 3468047885, 3780871052, 3381116891, 2939894950, 175702638, 3137373008, 3785978170⟩ := by kernel_rfl
theorem p4_47 : nodeF lf0 4 47 = ⟨2974308516, 1860193151, 503855131, 1970517165, 1201755447, 2515357972, 1757621404, 3315059188⟩ := by kernel_rfl
theorem p4_48 : nodeF lf0 4 48 = ⟨2600820607, 3502821239, 993858555, 1901554105, 3795400888, 3583266012, 287515624, 3375409385⟩ := by kernel_rfl
theorem p4_49 : nodeF lf0 4 49 = ⟨1712745671, 2275755642, 1103674888, 629808344, 1933044012, 1958815604, 199284968, 3343791924⟩ := by kernel_rfl
theorem p4_50 : nodeF lf0 4 50 = ⟨4022414494, 824034207, 4216594319, 2476872544, 1335544833, 452258239, 881293267, 900461715⟩ := by kernel_rfl
theorem p4_51 : nodeF lf0 4 51 = ⟨1316320615, 3699556158, 1825391156, 78553487, 3599194680, 1291460700, 755563930, 1930390899⟩ := by kernel_rfl
theorem p4_52 : nodeF lf0 4 52 = ⟨2772884459, 4079459653, 2955464979, 297983150, 3549238028, 992864175, 2711127484, 3657722129⟩ := by kernel_rfl
theorem p4_53 : nodeF lf0 4 53 = ⟨177552363, 335197521, 470991534, 2742886981, 1197979927, 1892011564, 4138590214, 4201495481⟩ := by kernel_rfl
theorem p4_54 : nodeF lf0 4 54 = ⟨2909511822, 857554952, 3686202177, 2553880552, 4107848526, 2576798383, 1211215131, 3562964146⟩ := by kernel_rfl
theorem p4_55 : nodeF lf0 4 55 = ⟨145560569, 1323826934, 2014211483, 305030903, 2320563222, 3975898686, 2855796698, 2471258870⟩ := by kernel_rfl
theorem p4_56 : nodeF lf0 4 56 = ⟨841941939, 3210272911, 316874711, 2528800736, 3422164606, 874944261, 3293051869, 3339014198⟩ := by kernel_rfl
theorem p4_57 : nodeF lf0 4 57 = ⟨2171022016, 3880077680, 2533659116, 3944996936, 3966299379, 2355830528, 1539139082, 1941878354⟩ := by kernel_rfl
theorem p4_58 : nodeF lf0 4 58 = ⟨2865034984, 3161144986, 2355399966, 3186808188, 3083261529, 3158156544, 1210749355, 1355879409⟩ := by kernel_rfl
theorem p4_59 : nodeF lf0 4 59 = ⟨3155531443, 4261460127, 2027750154, 3393188982, 3374838014, 4249105151, 823213647, 513332681⟩ := by kernel_rfl
theorem p4_60 : nodeF lf0 4 60 = ⟨1053374112, 502266066, 375407705, 2459868462, 318876178, 737324444, 3304498321, 2549093634⟩ := by kernel_rfl
theorem p4_61 : nodeF lf0 4 61 = ⟨1607015242, 2386244885, 508351506, 4052261487, 4088911310, 1944553452, 3052453970, 2990402171⟩ := by kernel_rfl
theorem p4_62 : nodeF lf0 4 62 = ⟨3674586779, 970024290, 2509226542, 3448339709, 1649248238, 4162431041, 4061414261, 3657215688⟩ := by kernel_rfl
theorem p4_63 : nodeF lf0 4 63 = ⟨410880347, 159384412, 2183028723, 3102773244, 1579315714, 3071488050, 1266893995, 1213545775⟩ := by kernel_rfl
theorem q4_32 : nodeF lf1 4 32 = ⟨1946432434, 317435748, 2676622853, 3079246901, 833189884, 4205844401, 1838796466, 925387535⟩ := by kernel_rfl
theorem nodeF_up (lf : Nat → Sha.St) (d n : Nat) {a b c : Sha.St} (ha : nodeF lf d (Nat.mul 2 n) = a) (hb : nodeF lf d (Nat.add (Nat.mul 2 n) 1) = b) (hc : pairF a b = c) : nodeF lf (d + 1) n = c := by rw [nodeF, ha, hb, hc]
theorem p5_16 : nodeF lf0 5 16 = ⟨2912913939, 4232208909, 1564402377, 56303610, 4122250347, 254953343, 1709107825, 884662348⟩ := nodeF_up _ _ _ p4_32 p4_33 (by kernel_rfl)
theorem p5_17 : nodeF lf0 5 17 = ⟨2638291958, 3861480987, 734379177, 516664077, 2579801178, 316932020, 1464471385, 3371710947⟩ := nodeF_up _ _ _ p4_34 p4_35 (by kernel_rfl)
theorem p5_18 : nodeF lf0 5 18 = ⟨2907068031, 3019145291, 2761716700, 1585810081, 2866614897, 1908218020, 2312646702, 3015646791⟩ := nodeF_up _ _ _ p4_36 p4_37 (by kernel_rfl)
theorem p5_19 : nodeF lf0 5 19 = ⟨3391870554, 769859157, 1900904961, 2107683649, 1252632626, 2570391478, 2737151568, 711897132⟩ := nodeF_up _ _ _ p4_38 p4_39 (by kernel_rfl)
theorem p5_20 : nodeF lf0 5 20 = ⟨3815736890, 1040591689, 2384936307, 2082312810, 404839997, 3993757017, 646920780, 154257602⟩ := nodeF_up _ _ _ p4_40 p4_41 (by kernel_rfl)
theorem p5_21 : nodeF lf0 5 21 = ⟨3563966704, 3196410242, 3313354312, 3225513661, 891409879, 4266730133, 3829204517, 3138814550⟩ := nodeF_up _ _ _ p4_42 p4_43 (by kernel_rfl)
theorem p5_22 : nodeF lf0 5 22 = ⟨4162529647, 1711360884, 2812007286, 698164189, 2889386666, 1511986102, 1327658091, 3467952096⟩ := nodeF_up _ _ _ p4_44 p4_45 (by kernel_rfl)
theorem p5_23 : nodeF lf0 5 23 = ⟨4124802899, 3508340024, 2145570225, 2409279635, 2641503282, 4026223767, 1037351666, 2760933435⟩ := nodeF_up _ _ _ p4_46 p4_47 (by kernel_rfl)
theorem p5_24 : nodeF lf0 5 24 = ⟨1974302240, 3995547371, 1285503101, 1552758761, 168542060, 926976564, 1811580113, 2761760245⟩ := nodeF_up _ _ _ p4_48 p4_49 (by kernel_rfl)
theorem p5_25 : nodeF lf0 5 25 = ⟨4266807680, 1900430232, 109742825, 1959011638, 3300956111, 598251034, 3718344099, 1492508649⟩ := nodeF_up _ _ _ p4_50 p4_51 (by kernel_rfl)
theorem p5_26 : nodeF lf0 5 26 = ⟨3948765632, 2034226575, 1041523095, 2423896341, 2949349179, 2334234434, 2767490022, 1642411134⟩ := nodeF_up _ _ _ p4_52 p4_53 (by kernel_rfl)
theorem p5_27 : nodeF lf0 5 27 = ⟨2427098423, 1918457254, 3293789761, 867868798, 707667372, 3246761697, 1110331469, 3379348098⟩ := nodeF_up _ _ _ p4_54 p4_55 (by kernel_rfl)
theorem p5_28 : nodeF lf0 5 28 = ⟨3421253956, 690760679, 2748444222, 2397504234, 2108469663, 4122707945, 2765392610, 3079267353⟩ := nodeF_up _ _ _ p4_56 p4_57 (by kernel_rfl)
theorem p5_29 : nodeF lf0 5 29 = ⟨3110892249, 2429990672, 3476912008, 1641112851, 4265479425, 2868475159, 2065551771, 3262094176⟩ := nodeF_up _ _ _ p4_58 p4_59 (by kernel_rfl)
theorem p5_30 : nodeF lf0 5 30 = ⟨229460283, 1703775755, 3933533452, 2125808025, 3308127813, 2573268275, 2312175816, 311679397⟩ := nodeF_up _ _ _ p4_60 p4_61 (by kernel_rfl)
theorem p5_31 : nodeF lf0 5 31 = ⟨4180585138, 1953936977, 117522020, 3068430382, 2521207500, 3112158285, 2135562131, 3165575731⟩ := nodeF_up _ _ _ p4_62 p4_63 (by kernel_rfl)
theorem p6_8 : nodeF lf0 6 8 = ⟨1045202796, 1933375612, 2042541188, 377619457, 1383702710, 2736554309, 1197899100, 2873635968⟩ := nodeF_up _ _ _ p5_16 p5_17 (by kernel_rfl)
theorem p6_9 : nodeF lf0 6 9 = ⟨1510300773, 529289639, 683418309, 4109896555, 576703046, 1281870926, 2253266184, 276511837⟩ := nodeF_up _ _ _ p5_18 p5_19 (by kernel_rfl)
theorem p6_10 : nodeF lf0 6 10 = ⟨3205004775, 3485006806, 2560685009, 353320344, 2246924707, 793875809, 2541856220, 3112476030⟩ := nodeF_up _ _ _ p5_20 p5_21 (by kernel_rfl)
theorem p6_11 : nodeF lf0 6 11 = ⟨2239793732, 2652595386, 800342666, 25801313, 1437368131, 3135071543, 4028122335, 4061650676⟩ := nodeF_up _ _ _ p5_22 p5_23 (by kernel_rfl)
theorem p6_12 : nodeF lf0 6 12 = ⟨3245665706, 3371900650, 3188073678, 4016438778, 1130763023, 838325346, 2463262472, 3383077003⟩ := nodeF_up _ _ _ p5_24 p5_25 (by kernel_rfl)
theorem p6_13 : nodeF lf0 6 13 = ⟨1748685945, 2670217749, 2981478955, 2106555171, 1813931474, 558427085, 4200621087, 1990494241⟩ := nodeF_up _ _ _ p5_26 p5_27 (by kernel_rfl)
theorem p6_14 : nodeF lf0 6 14 = ⟨2722853718, 3736858689, 3476353684, 422281784, 2324246261, 931258831, 4163238595, 4190461402⟩ := nodeF_up _ _ _ p5_28 p5_29 (by kernel_rfl)
theorem p6_15 : nodeF lf0 6 15 = ⟨122875171, 3002083717, 1527386953, 3590041089, 2053862163, 3218894154, 4109299615, 3037525501⟩ := nodeF_up _ _ _ p5_30 p5_31 (by kernel_rfl)
theorem p7_4 : nodeF lf0 7 4 = ⟨3252379047, 497879462, 4292052793, 4276198133, 2071149661, 3166407660, 3443060115, 4004897052⟩ := nodeF_up _ _ _ p6_8 p6_9 (by kernel_rfl)
theorem p7_5 : nodeF lf0 7 5 = ⟨364151592, 3509994831, 1067189667, 587581306, 4184669174, 3871164830, 4122023685, 3142264112⟩ := nodeF_up _ _ _ p6_10 p6_11 (by kernel_rfl)
theorem p7_6 : nodeF lf0 7 6 = ⟨3312165555, 2025076932, 3474823270, 1213771409, 212950818, 3675910559, 3970144915, 39204461⟩ := nodeF_up _ _ _ p6_12 p6_13 (by kernel_rfl)
theorem p7_7 : nodeF lf0 7 7 = ⟨568682147, 1660094431, 4262204516, 2520920403, 2679164181, 2864528291, 3500990786, 1992743500⟩ := nodeF_up _ _ _ p6_14 p6_15 (by kernel_rfl)
theorem p8_2 : nodeF lf0 8 2 = ⟨520810875, 209256825, 796460089, 3750662164, 2441074286, 1068572257, 1012902975, 3226761345⟩ := nodeF_up _ _ _ p7_4 p7_5 (by kernel_rfl)
theorem p8_3 : nodeF lf0 8 3 = ⟨2169100173, 128561768, 1637596639, 1127834940, 2181955990, 2456546789, 3806509095, 3369688527⟩ := nodeF_up _ _ _ p7_6 p7_7 (by kernel_rfl)
theorem p9_1 : nodeF lf0 9 1 = ⟨1537911702, 4150855473, 3886530134, 3211885903, 3796165769, 1865031665, 3959203215, 1118044176⟩ := nodeF_up _ _ _ p8_2 p8_3 (by kernel_rfl)
theorem nodeF_same : ∀ (d n : Nat), 514 ≤ n * 2 ^ d → nodeF lf1 d n = nodeF lf0 d n
  | 0, n, h => by
    unfold nodeF lf1 lf0
    have : Nat.sub n 512 ≠ 1 := by show n - 512 ≠ 1; omega
    split
    · rename_i e; exact absurd e this
    · rfl
  | d + 1, n, h => by
    rw [Nat.pow_succ] at h
    unfold nodeF
    rw [nodeF_same d (Nat.mul 2 n) (by show 514 ≤ 2 * n * 2 ^ d; rw [Nat.mul_comm 2 n, Nat.mul_assoc, Nat.mul_comm 2]; exact h), nodeF_same d (Nat.add (Nat.mul 2 n) 1) (by
      show 514 ≤ (2 * n + 1) * 2 ^ d
      refine Nat.le_trans h ?_
      rw [Nat.mul_comm (2 ^ d), ← Nat.mul_assoc]
      exact Nat.mul_le_mul_right _ (by omega))]
theorem q5_16 : nodeF lf1 5 16 = ⟨3692644613, 424338430, 3436572839, 3930518776, 4119819297, 220057112, 62526447, 2181984110⟩ := nodeF_up _ _ _ q4_32 ((nodeF_same 4 33 (by decide)).trans p4_33) (by kernel_rfl)
theorem q6_8 : nodeF lf1 6 8 = ⟨895625362, 2902811399, 73317464, 2327445300, 3269025761, 2340419990, 315274414, 4041715612⟩ := nodeF_up _ _ _ q5_16 ((nodeF_same 5 17 (by decide)).trans p5_17) (by kernel_rfl)
theorem q7_4 : nodeF lf1 7 4 = ⟨3145276770, 577200057, 4065815491, 1293151836, 3893007623, 521927490, 1897970584, 2359996396⟩ := nodeF_up _ _ _ q6_8 ((nodeF_same 6 9 (by decide)).trans p6_9) (by kernel_rfl)
theorem q8_2 : nodeF lf1 8 2 = ⟨971390372, 1405959747, 3351848318, 2723260290, 3148384222, 2254338509, 4145247951, 434691435⟩ := nodeF_up _ _ _ q7_4 ((nodeF_same 7 5 (by decide)).trans p7_5) (by kernel_rfl)
theorem q9_1 : nodeF lf1 9 1 = ⟨1723902590, 1662791173, 1792868869, 2554086855, 360505601, 2946163833, 396834225, 110747617⟩ := nodeF_up _ _ _ q8_2 ((nodeF_same 8 3 (by decide)).trans p8_3) (by kernel_rfl)
theorem roots_a : (nodeF lf0 9 1).a ≠ (nodeF lf1 9 1).a := by rw [p9_1, q9_1]; decide
theorem be4_inj {x y : Nat} (hx : x < 4294967296) (hy : y < 4294967296) {r s : List Nat} (h : be 4 x ++ r = be 4 y ++ s) : x = y := by
  rw [be4, be4] at h
  simp only [List.cons_append, List.nil_append, List.cons.injEq] at h
  omega
theorem roots_differ : rootD [] ≠ rootD [⟨1, 4, 4, 1, false⟩] := by
  intro h
  have a := nodeF_eq lf0_eq 9 1 (by decide) (by decide)
  have b := nodeF_eq lf1_eq 9 1 (by decide) (by decide)
  unfold rootD at h
  rw [← a.1, ← b.1] at h
  have e : (nodeF lf0 9 1).a = (nodeF lf1 9 1).a := by
    simp only [out, List.append_assoc] at h
    exact be4_inj a.2.a b.2.a h
  exact roots_a e
end Go.Dr

