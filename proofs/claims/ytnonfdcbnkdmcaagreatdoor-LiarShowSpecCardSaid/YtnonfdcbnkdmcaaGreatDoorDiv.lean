/- math/bits.Div64 at divisors of 61 and 62 bits -/
import Derived.Test.YtnonfdcbnkdmcaaGreatDoorChecked
import Derived.Test.YtnonfdcbnkdmcaaGreatDoorGrpPlain
import Derived.Test.YtnonfdcbnkdmcaaGreatDoorShelf
import Derived.WalkKit
import Derived.WalkLawsBesides
import Derived.WalkSpells
import Derived.Lib.Hide
import Derived.Laws.Bits64b
import Derived.Laws.BitsAllLaws
import Derived.Deep.QuietTactic
import Derived.BigQuiet
namespace Go.Proofs.YtnonfdcbnkdmcaaGreatDoor
open Go.RowKit

theorem wrapN (a : Nat) (ha : a < 18446744073709551616) : IntKind.u64.wrap (a : Int) = (a : Int) := by rw [IntKind.wrap_u64]; omega
theorem maskN (a : Nat) (ha : a < 18446744073709551616) : bits .and .u64 (a : Int) 4294967295 = ((a % 4294967296 : Nat) : Int) := by
 have h := bits_and_u64_nat a 4294967295 ha (by omega)
 have e : a &&& 4294967295 = a % 4294967296 := Nat.and_two_pow_sub_one_eq_mod a 32
 rw [e] at h
 exact h
theorem or_low (k a b : Nat) (hb : b < 2 ^ k) : a * 2 ^ k ||| b = a * 2 ^ k + b := by
 rw [← Nat.shiftLeft_eq, ← Nat.shiftLeft_add_eq_or_of_lt hb]
theorem sub_mulD {N Q D r : Nat} (h : Q * D + r = N) (hr : r < 18446744073709551616) (x : Int) (hx : x % 18446744073709551616 = (N : Int) % 18446744073709551616) :
 IntKind.u64.wrap (x - IntKind.u64.wrap ((Q : Int) * (D : Int))) = (r : Int) := by
 rw [IntKind.wrap_u64, IntKind.wrap_u64, ← Int.natCast_mul]
 generalize Q * D = m at *
 omega

def DivPost (r : Int) (w : World) (e : Ending) (w' : World) : Prop := ∃ q : Int, e = .returned (.tuple #[.int .u64 q, .int .u64 r]) ∧ ∃ n, w' = w.drewN n

set_option maxHeartbeats 4000000 in
set_option maxRecDepth 100000 in
theorem div_zero (lo y : Nat) (w : World) (hlo : lo < 18446744073709551616) (hy : 0 < y) (hy2 : y < 18446744073709551616) :
 Calls Tryz.prog 196 #[.int .u64 0, .int .u64 lo, .int .u64 y] w (DivPost ((lo % y : Nat) : Int) w) := by
 obtain ⟨res, hres⟩ : ∃ res, Hid (lo % y = res) := ⟨_, rfl⟩
 rw [hres.out]
 have hr : (lo : Int) % (y : Int) = (res : Int) := by rw [← hres.out]; omega
 have h0 : ((y : Int) == 0) = false := by simp; omega
 have h1 : ¬ (y : Int) ≤ 0 := by omega
 have h3 : (0 : Int) ≤ (lo : Int) := by omega
 have h4 : (0 : Int) ≤ (y : Int) := by omega
 go_enter Tryz.func196, Tryz.ntmps196
 go_wp2_with fail
 go_quiet (fail)
 go_wp2_with fail
 go_ret2
 exact ⟨_, by rw [← hr]; rfl, nq, rfl⟩


structure Nums2 (hi lo y u a b m v1 v0 D : Nat) : Prop where
 hD : D = a * 4294967296 + b
 hu : u < a * 4294967296 + b
 ha : 2147483648 ≤ a
 ha' : a < 4294967296
 hb : b < 4294967296
 hv1 : v1 < 4294967296
 hv0 : v0 < 4294967296
 eD : IntKind.u64.wrap ((y : Int) * 4) = (D : Int)
 eD' : (y : Int) * 4 = (D : Int)
 eA : (D : Int) / 4294967296 = (a : Int)
 eB : bits .and .u64 (D : Int) 4294967295 = (b : Int)
 eU : bits .or .u64 ((hi : Int) * 4) ((lo : Int) / 4611686018427387904) = (u : Int)
 eM : IntKind.u64.wrap ((lo : Int) * 4) = (m : Int)
 eV1 : (m : Int) / 4294967296 = (v1 : Int)
 eV0 : bits .and .u64 (m : Int) 4294967295 = (v0 : Int)
 all : u * 18446744073709551616 + (v1 * 4294967296 + v0) = (hi * 18446744073709551616 + lo) * 2 ^ 2
 eY : D = y * 2 ^ 2

theorem nums2 (hi lo y : Nat) (hlo : lo < 18446744073709551616) (hy : 2305843009213693952 ≤ y) (hy2 : y < 4611686018427387904) (hhi : hi < y) : ∃ u a b m v1 v0 D, Nums2 hi lo y u a b m v1 v0 D := by
 refine ⟨hi * 4 + lo / 4611686018427387904, y * 4 / 4294967296, y * 4 % 4294967296, lo * 4 % 18446744073709551616, lo * 4 % 18446744073709551616 / 4294967296, lo * 4 % 18446744073709551616 % 4294967296, y * 4, ?_⟩
 have h1 := bits_or_u64_nat (hi * 4) (lo / 4611686018427387904) (by omega) (by omega)
 have h2 : hi * 4 ||| lo / 4611686018427387904 = hi * 4 + lo / 4611686018427387904 := or_low 2 hi (lo / 4611686018427387904) (by omega)
 rw [h2] at h1
 refine ⟨by omega, by omega, by omega, by omega, by omega, by omega, by omega, by rw [IntKind.wrap_u64]; omega, by omega, by omega, maskN _ (by omega), ?_, by rw [IntKind.wrap_u64]; omega, by omega, maskN _ (by omega), by omega, rfl⟩
 rw [← h1]
 congr 1

set_option maxHeartbeats 8000000 in
set_option maxRecDepth 100000 in
theorem div_2 (hi lo y : Nat) (w : World) (hlo : lo < 18446744073709551616) (hy : 2305843009213693952 ≤ y) (hy2 : y < 4611686018427387904) (hhi : hi < y) (hpos : 0 < hi) :
 Calls Tryz.prog 196 #[.int .u64 hi, .int .u64 lo, .int .u64 y] w (DivPost (((hi * 18446744073709551616 + lo) % y : Nat) : Int) w) := by
 obtain ⟨res, hres⟩ : ∃ res, Hid ((hi * 18446744073709551616 + lo) % y = res) := ⟨_, rfl⟩
 rw [hres.out]
 have h0 : ((y : Int) == 0) = false := by simp; omega
 have h0' : ((hi : Int) == 0) = false := by simp; omega
 have h1 : ¬ (y : Int) ≤ (hi : Int) := by omega
 have hs : (64 - (Lib.bitLen (y : Int).toNat : Int)) = 2 := by
  rw [Int.toNat_natCast, Lib.bitLen_shift 61 y hy (by omega), show y / 2 ^ 61 = 1 by omega]; rfl
 obtain ⟨u, a, b, m, v1, v0, D, X⟩ := nums2 hi lo y hlo hy hy2 hhi
 have eD := X.eD; have eD' := X.eD'; have eA := X.eA; have eB := X.eB; have eU := X.eU; have eM := X.eM; have eV1 := X.eV1; have eV0 := X.eV0
 have hA := X.ha; have hA' := X.ha'; have hB := X.hb; have hV1 := X.hv1; have hV0 := X.hv0
 have na : (0 : Int) ≤ (a : Int) := by omega
 have nu : (0 : Int) ≤ (u : Int) := by omega
 have haz : ((a : Int) == 0) = false := by simp; omega
 have huB : u < 18446744073709551616 := by have := X.hu; omega
 have G0 := Lib.hid (Grp.guess_start (v := v1) X.ha X.ha' X.hb X.hv1 X.hu)
 obtain ⟨q, hq⟩ : ∃ q, u / a = q := ⟨_, rfl⟩
 obtain ⟨r, hr⟩ : ∃ r, u % a = r := ⟨_, rfl⟩
 rw [hq, hr] at G0
 have eq1 : IntKind.u64.wrap ((u : Int) / (a : Int)) = (q : Int) := by
  rw [← Int.natCast_ediv, hq]; exact wrapN _ (by have := G0.out.le; omega)
 have er1 : IntKind.u64.wrap ((u : Int) - IntKind.u64.wrap ((q : Int) * (a : Int))) = (r : Int) := sub_mulD (N := u) G0.out.sum (by have := G0.out.rl; omega) _ rfl
 have hX := Lib.hid X
 clear hq hr X
 go_enter Tryz.func196, Tryz.ntmps196
 go_wp2_with fail
 refine (Tryz.bits_LeadingZeros64 (y : Int) _ (by omega) (by omega)).mono ?_
 rintro e w' ⟨rfl, hw⟩
 rw [hw, hs]
 clear hw hs
 go_wp2_with fail
 clear eD eD' eA eB eU eM eV1 eV0 eq1 er1 h0 h0' h1
 have U0 := Lib.hid hX.out.hu
 go_loop [15, 16] (fun x z => ∃ q0 r0 : Nat, x = .int .u64 q0 ∧ z = .int .u64 r0 ∧ Grp.Guess u v1 a b q0 r0) (fun x _ => (intOf x).toNat)
 case atStart => exact ⟨_, _, rfl, rfl, G0.out⟩
 case round =>
  obtain ⟨q0, r0, rfl, rfl, g0⟩ := hrel
  have L0 := g0.le; have R0 := g0.rl
  have H0 := Lib.hid g0
  clear g0
  by_cases t0 : 4294967296 ≤ q0 ∨ 4294967296 * r0 + v1 < q0 * b
  · have d0 := Lib.hid (Grp.guess_down hX.out.hv1 U0.out H0.out t0)
    obtain ⟨p0, hp0⟩ : ∃ p, q0 = p + 1 := ⟨q0 - 1, by have := Nat.lt_of_le_of_lt (Nat.zero_le _) d0.out; omega⟩
    have ep0a : IntKind.u64.wrap ((q0 : Int) - 1) = (p0 : Int) := by rw [show (q0 : Int) - 1 = (p0 : Int) by omega]; exact wrapN _ (by omega)
    have es0 : IntKind.u64.wrap ((r0 : Int) + (a : Int)) = ((r0 + a : Nat) : Int) := by rw [← Int.natCast_add]; exact wrapN _ (by omega)
    obtain ⟨r0a, hra0⟩ : ∃ x, r0 + a = x := ⟨_, rfl⟩
    rw [hra0] at es0
    have tt0 : (decide ((4294967296 : Int) ≤ (q0 : Int)) = true) ∨ (decide ((4294967296 : Int) ≤ (q0 : Int)) = false ∧ decide (IntKind.u64.wrap (IntKind.u64.wrap (4294967296 * (r0 : Int)) + (v1 : Int)) < IntKind.u64.wrap ((q0 : Int) * (b : Int))) = true) := by
     by_cases c : 4294967296 ≤ q0
     · left; simp; omega
     · right; refine ⟨by simp; omega, ?_⟩
       have hm : q0 * b ≤ 4294967296 * 4294967295 := Nat.mul_le_mul (by omega) (by omega)
       rw [← Int.natCast_mul, wrapN (q0 * b) (by omega), IntKind.wrap_u64, IntKind.wrap_u64]
       generalize q0 * b = mm at *
       simp only [decide_eq_true_eq]; omega
    have hq10 : q0 - 1 = p0 := by omega
    by_cases k0 : 4294967296 ≤ r0 + a
    · have Q0 := Lib.hid (Grp.guess_break (by omega) hX.out.hb U0.out d0.out H0.out k0)
      rw [hq10] at Q0
      have kk0 : (decide ((4294967296 : Int) ≤ (r0a : Int))) = true := by simp; omega
      have hp0' := Lib.hid hp0; clear t0 k0 L0 R0 hq10 hra0 hp0
      obtain ⟨u2, hu2⟩ : ∃ u2, Hid ((u * 4294967296 + v1) % D = u2) := ⟨_, rfl⟩
      have hDp : 0 < D := by have := hX.out.hD; omega
      have hDl : D < 18446744073709551616 := by have := hX.out.hD; omega
      have U1 : Hid (u2 < a * 4294967296 + b) := by show _ < _; rw [← hX.out.hD, ← hu2.out]; exact Nat.mod_lt _ hDp
      have e2 : IntKind.u64.wrap (IntKind.u64.wrap (IntKind.u64.wrap ((u : Int) * 4294967296) + (v1 : Int)) - IntKind.u64.wrap ((p0 : Int) * (D : Int))) = (u2 : Int) := by
       refine sub_mulD (N := u * 4294967296 + v1) ?_ (by have := U1.out; omega) _ (by rw [IntKind.wrap_u64, IntKind.wrap_u64]; omega)
       rw [Q0.out, ← hX.out.hD, ← hu2.out]; exact Nat.div_add_mod' _ _
      have G1 := Lib.hid (Grp.guess_start (v := v0) hX.out.ha hX.out.ha' hX.out.hb hX.out.hv0 U1.out)
      obtain ⟨qs, hqs⟩ : ∃ q, u2 / a = q := ⟨_, rfl⟩
      obtain ⟨rs, hrs⟩ : ∃ r, u2 % a = r := ⟨_, rfl⟩
      rw [hqs, hrs] at G1
      have eq2 : IntKind.u64.wrap ((u2 : Int) / (a : Int)) = (qs : Int) := by
       rw [← Int.natCast_ediv, hqs]; exact wrapN _ (by have := G1.out.le; omega)
      have er2 : IntKind.u64.wrap ((u2 : Int) - IntKind.u64.wrap ((qs : Int) * (a : Int))) = (rs : Int) := sub_mulD (N := u2) G1.out.sum (by have := G1.out.rl; omega) _ rfl
      have nu2 : (0 : Int) ≤ (u2 : Int) := by omega
      have hu2B : u2 < 18446744073709551616 := by have := U1.out; omega
      obtain ⟨z2, hz2⟩ : ∃ z2, Hid ((u2 * 4294967296 + v0) % D = z2 ∧ z2 < 18446744073709551616) := ⟨_, rfl, Nat.lt_trans (Nat.mod_lt _ hDp) hDl⟩
      have nz2 : (0 : Int) ≤ (z2 : Int) := by omega
      have efin : (z2 : Int) / 4 = (res : Int) := by
       have h := Grp.two_steps (s := 2) hX.out.all (show 0 < y by omega)
       rw [← hX.out.eY, hu2.out, hz2.out.1, hres.out] at h
       rw [h]; omega
      clear hqs hrs hDp hDl
      rcases tt0 with tt0 | ⟨tt0, tu0⟩
      all_goals
       go_wp2_with fail
       clear e2 eq2 er2
       go_loop [18, 16] (fun x z => ∃ q1 r1 : Nat, x = .int .u64 q1 ∧ z = .int .u64 r1 ∧ Grp.Guess u2 v0 a b q1 r1) (fun x _ => (intOf x).toNat)
       case atStart => exact ⟨_, _, rfl, rfl, G1.out⟩
       case round =>
        obtain ⟨q1, r1, rfl, rfl, g1⟩ := hrel
        have L1 := g1.le; have R1 := g1.rl
        have H1 := Lib.hid g1
        clear g1
        by_cases t1 : 4294967296 ≤ q1 ∨ 4294967296 * r1 + v0 < q1 * b
        · have d1 := Lib.hid (Grp.guess_down hX.out.hv0 U1.out H1.out t1)
          obtain ⟨p1, hp1⟩ : ∃ p, q1 = p + 1 := ⟨q1 - 1, by have := Nat.lt_of_le_of_lt (Nat.zero_le _) d1.out; omega⟩
          have ep1a : IntKind.u64.wrap ((q1 : Int) - 1) = (p1 : Int) := by rw [show (q1 : Int) - 1 = (p1 : Int) by omega]; exact wrapN _ (by omega)
          have es1 : IntKind.u64.wrap ((r1 : Int) + (a : Int)) = ((r1 + a : Nat) : Int) := by rw [← Int.natCast_add]; exact wrapN _ (by omega)
          obtain ⟨r1a, hra1⟩ : ∃ x, r1 + a = x := ⟨_, rfl⟩
          rw [hra1] at es1
          have tt1 : (decide ((4294967296 : Int) ≤ (q1 : Int)) = true) ∨ (decide ((4294967296 : Int) ≤ (q1 : Int)) = false ∧ decide (IntKind.u64.wrap (IntKind.u64.wrap (4294967296 * (r1 : Int)) + (v0 : Int)) < IntKind.u64.wrap ((q1 : Int) * (b : Int))) = true) := by
           by_cases c : 4294967296 ≤ q1
           · left; simp; omega
           · right; refine ⟨by simp; omega, ?_⟩
             have hm : q1 * b ≤ 4294967296 * 4294967295 := Nat.mul_le_mul (by omega) (by omega)
             rw [← Int.natCast_mul, wrapN (q1 * b) (by omega), IntKind.wrap_u64, IntKind.wrap_u64]
             generalize q1 * b = mm at *
             simp only [decide_eq_true_eq]; omega
          have hq11 : q1 - 1 = p1 := by omega
          by_cases k1 : 4294967296 ≤ r1 + a
          · have Q1 := Lib.hid (Grp.guess_break (by omega) hX.out.hb U1.out d1.out H1.out k1)
            rw [hq11] at Q1
            have kk1 : (decide ((4294967296 : Int) ≤ (r1a : Int))) = true := by simp; omega
            have hp1' := Lib.hid hp1; clear t1 k1 L1 R1 hq11 hra1 hp1
            have ef : IntKind.u64.wrap (IntKind.u64.wrap (IntKind.u64.wrap ((u2 : Int) * 4294967296) + (v0 : Int)) - IntKind.u64.wrap ((p1 : Int) * (D : Int))) = (z2 : Int) := by
             refine sub_mulD (N := u2 * 4294967296 + v0) ?_ hz2.out.2 _ (by rw [IntKind.wrap_u64, IntKind.wrap_u64]; omega)
             rw [Q1.out, ← hX.out.hD, ← hz2.out.1]; exact Nat.div_add_mod' _ _
            rcases tt1 with tt1 | ⟨tt1, tu1⟩
            all_goals
             go_wp2_with fail
             go_ret2
             exact ⟨_, rfl, 0, rfl⟩
          · have N1 := Lib.hid (Grp.guess_next (by omega) d1.out H1.out (by omega))
            rw [hq11, hra1] at N1
            have kk1 : (decide ((4294967296 : Int) ≤ (r1a : Int))) = false := by simp; omega
            have hp1' := Lib.hid hp1; clear t1 k1 L1 R1 hq11 hra1 hp1
            rcases tt1 with tt1 | ⟨tt1, tu1⟩
            all_goals
             go_wp2_with fail
             go_round
             case rel => exact ⟨_, _, rfl, rfl, N1.out⟩
             case measure => have := hp1'.out; simp [intOf]; omega
        · have Q1 := Lib.hid (Grp.guess_done U1.out H1.out (by omega))
          have tt1 : decide ((4294967296 : Int) ≤ (q1 : Int)) = false := by simp; omega
          have tu1 : decide (IntKind.u64.wrap (IntKind.u64.wrap (4294967296 * (r1 : Int)) + (v0 : Int)) < IntKind.u64.wrap ((q1 : Int) * (b : Int))) = false := by
           have hm : q1 * b ≤ 4294967296 * 4294967295 := Nat.mul_le_mul (by omega) (by omega)
           rw [← Int.natCast_mul, wrapN (q1 * b) (by omega), IntKind.wrap_u64, IntKind.wrap_u64]
           generalize q1 * b = mm at *
           simp only [decide_eq_false_iff_not]; omega
          clear t1 L1 R1
          have ef : IntKind.u64.wrap (IntKind.u64.wrap (IntKind.u64.wrap ((u2 : Int) * 4294967296) + (v0 : Int)) - IntKind.u64.wrap ((q1 : Int) * (D : Int))) = (z2 : Int) := by
           refine sub_mulD (N := u2 * 4294967296 + v0) ?_ hz2.out.2 _ (by rw [IntKind.wrap_u64, IntKind.wrap_u64]; omega)
           rw [Q1.out, ← hX.out.hD, ← hz2.out.1]; exact Nat.div_add_mod' _ _
          go_wp2_with fail
          go_ret2
          exact ⟨_, rfl, 0, rfl⟩
    · have N0 := Lib.hid (Grp.guess_next (by omega) d0.out H0.out (by omega))
      rw [hq10, hra0] at N0
      have kk0 : (decide ((4294967296 : Int) ≤ (r0a : Int))) = false := by simp; omega
      have hp0' := Lib.hid hp0; clear t0 k0 L0 R0 hq10 hra0 hp0
      rcases tt0 with tt0 | ⟨tt0, tu0⟩
      all_goals
       go_wp2_with fail
       go_round
       case rel => exact ⟨_, _, rfl, rfl, N0.out⟩
       case measure => have := hp0'.out; simp [intOf]; omega
  · have Q0 := Lib.hid (Grp.guess_done U0.out H0.out (by omega))
    have tt0 : decide ((4294967296 : Int) ≤ (q0 : Int)) = false := by simp; omega
    have tu0 : decide (IntKind.u64.wrap (IntKind.u64.wrap (4294967296 * (r0 : Int)) + (v1 : Int)) < IntKind.u64.wrap ((q0 : Int) * (b : Int))) = false := by
     have hm : q0 * b ≤ 4294967296 * 4294967295 := Nat.mul_le_mul (by omega) (by omega)
     rw [← Int.natCast_mul, wrapN (q0 * b) (by omega), IntKind.wrap_u64, IntKind.wrap_u64]
     generalize q0 * b = mm at *
     simp only [decide_eq_false_iff_not]; omega
    clear t0 L0 R0
    obtain ⟨u2, hu2⟩ : ∃ u2, Hid ((u * 4294967296 + v1) % D = u2) := ⟨_, rfl⟩
    have hDp : 0 < D := by have := hX.out.hD; omega
    have hDl : D < 18446744073709551616 := by have := hX.out.hD; omega
    have U1 : Hid (u2 < a * 4294967296 + b) := by show _ < _; rw [← hX.out.hD, ← hu2.out]; exact Nat.mod_lt _ hDp
    have e2 : IntKind.u64.wrap (IntKind.u64.wrap (IntKind.u64.wrap ((u : Int) * 4294967296) + (v1 : Int)) - IntKind.u64.wrap ((q0 : Int) * (D : Int))) = (u2 : Int) := by
     refine sub_mulD (N := u * 4294967296 + v1) ?_ (by have := U1.out; omega) _ (by rw [IntKind.wrap_u64, IntKind.wrap_u64]; omega)
     rw [Q0.out, ← hX.out.hD, ← hu2.out]; exact Nat.div_add_mod' _ _
    have G1 := Lib.hid (Grp.guess_start (v := v0) hX.out.ha hX.out.ha' hX.out.hb hX.out.hv0 U1.out)
    obtain ⟨qs, hqs⟩ : ∃ q, u2 / a = q := ⟨_, rfl⟩
    obtain ⟨rs, hrs⟩ : ∃ r, u2 % a = r := ⟨_, rfl⟩
    rw [hqs, hrs] at G1
    have eq2 : IntKind.u64.wrap ((u2 : Int) / (a : Int)) = (qs : Int) := by
     rw [← Int.natCast_ediv, hqs]; exact wrapN _ (by have := G1.out.le; omega)
    have er2 : IntKind.u64.wrap ((u2 : Int) - IntKind.u64.wrap ((qs : Int) * (a : Int))) = (rs : Int) := sub_mulD (N := u2) G1.out.sum (by have := G1.out.rl; omega) _ rfl
    have nu2 : (0 : Int) ≤ (u2 : Int) := by omega
    have hu2B : u2 < 18446744073709551616 := by have := U1.out; omega
    obtain ⟨z2, hz2⟩ : ∃ z2, Hid ((u2 * 4294967296 + v0) % D = z2 ∧ z2 < 18446744073709551616) := ⟨_, rfl, Nat.lt_trans (Nat.mod_lt _ hDp) hDl⟩
    have nz2 : (0 : Int) ≤ (z2 : Int) := by omega
    have efin : (z2 : Int) / 4 = (res : Int) := by
     have h := Grp.two_steps (s := 2) hX.out.all (show 0 < y by omega)
     rw [← hX.out.eY, hu2.out, hz2.out.1, hres.out] at h
     rw [h]; omega
    clear hqs hrs hDp hDl
    go_wp2_with fail
    clear e2 eq2 er2
    go_loop [18, 16] (fun x z => ∃ q1 r1 : Nat, x = .int .u64 q1 ∧ z = .int .u64 r1 ∧ Grp.Guess u2 v0 a b q1 r1) (fun x _ => (intOf x).toNat)
    case atStart => exact ⟨_, _, rfl, rfl, G1.out⟩
    case round =>
     obtain ⟨q1, r1, rfl, rfl, g1⟩ := hrel
     have L1 := g1.le; have R1 := g1.rl
     have H1 := Lib.hid g1
     clear g1
     by_cases t1 : 4294967296 ≤ q1 ∨ 4294967296 * r1 + v0 < q1 * b
     · have d1 := Lib.hid (Grp.guess_down hX.out.hv0 U1.out H1.out t1)
       obtain ⟨p1, hp1⟩ : ∃ p, q1 = p + 1 := ⟨q1 - 1, by have := Nat.lt_of_le_of_lt (Nat.zero_le _) d1.out; omega⟩
       have ep1a : IntKind.u64.wrap ((q1 : Int) - 1) = (p1 : Int) := by rw [show (q1 : Int) - 1 = (p1 : Int) by omega]; exact wrapN _ (by omega)
       have es1 : IntKind.u64.wrap ((r1 : Int) + (a : Int)) = ((r1 + a : Nat) : Int) := by rw [← Int.natCast_add]; exact wrapN _ (by omega)
       obtain ⟨r1a, hra1⟩ : ∃ x, r1 + a = x := ⟨_, rfl⟩
       rw [hra1] at es1
       have tt1 : (decide ((4294967296 : Int) ≤ (q1 : Int)) = true) ∨ (decide ((4294967296 : Int) ≤ (q1 : Int)) = false ∧ decide (IntKind.u64.wrap (IntKind.u64.wrap (4294967296 * (r1 : Int)) + (v0 : Int)) < IntKind.u64.wrap ((q1 : Int) * (b : Int))) = true) := by
        by_cases c : 4294967296 ≤ q1
        · left; simp; omega
        · right; refine ⟨by simp; omega, ?_⟩
          have hm : q1 * b ≤ 4294967296 * 4294967295 := Nat.mul_le_mul (by omega) (by omega)
          rw [← Int.natCast_mul, wrapN (q1 * b) (by omega), IntKind.wrap_u64, IntKind.wrap_u64]
          generalize q1 * b = mm at *
          simp only [decide_eq_true_eq]; omega
       have hq11 : q1 - 1 = p1 := by omega
       by_cases k1 : 4294967296 ≤ r1 + a
       · have Q1 := Lib.hid (Grp.guess_break (by omega) hX.out.hb U1.out d1.out H1.out k1)
         rw [hq11] at Q1
         have kk1 : (decide ((4294967296 : Int) ≤ (r1a : Int))) = true := by simp; omega
         have hp1' := Lib.hid hp1; clear t1 k1 L1 R1 hq11 hra1 hp1
         have ef : IntKind.u64.wrap (IntKind.u64.wrap (IntKind.u64.wrap ((u2 : Int) * 4294967296) + (v0 : Int)) - IntKind.u64.wrap ((p1 : Int) * (D : Int))) = (z2 : Int) := by
          refine sub_mulD (N := u2 * 4294967296 + v0) ?_ hz2.out.2 _ (by rw [IntKind.wrap_u64, IntKind.wrap_u64]; omega)
          rw [Q1.out, ← hX.out.hD, ← hz2.out.1]; exact Nat.div_add_mod' _ _
         rcases tt1 with tt1 | ⟨tt1, tu1⟩
         all_goals
          go_wp2_with fail
          go_ret2
          exact ⟨_, rfl, 0, rfl⟩
       · have N1 := Lib.hid (Grp.guess_next (by omega) d1.out H1.out (by omega))
         rw [hq11, hra1] at N1
         have kk1 : (decide ((4294967296 : Int) ≤ (r1a : Int))) = false := by simp; omega
         have hp1' := Lib.hid hp1; clear t1 k1 L1 R1 hq11 hra1 hp1
         rcases tt1 with tt1 | ⟨tt1, tu1⟩
         all_goals
          go_wp2_with fail
          go_round
          case rel => exact ⟨_, _, rfl, rfl, N1.out⟩
          case measure => have := hp1'.out; simp [intOf]; omega
     · have Q1 := Lib.hid (Grp.guess_done U1.out H1.out (by omega))
       have tt1 : decide ((4294967296 : Int) ≤ (q1 : Int)) = false := by simp; omega
       have tu1 : decide (IntKind.u64.wrap (IntKind.u64.wrap (4294967296 * (r1 : Int)) + (v0 : Int)) < IntKind.u64.wrap ((q1 : Int) * (b : Int))) = false := by
        have hm : q1 * b ≤ 4294967296 * 4294967295 := Nat.mul_le_mul (by omega) (by omega)
        rw [← Int.natCast_mul, wrapN (q1 * b) (by omega), IntKind.wrap_u64, IntKind.wrap_u64]
        generalize q1 * b = mm at *
        simp only [decide_eq_false_iff_not]; omega
       clear t1 L1 R1
       have ef : IntKind.u64.wrap (IntKind.u64.wrap (IntKind.u64.wrap ((u2 : Int) * 4294967296) + (v0 : Int)) - IntKind.u64.wrap ((q1 : Int) * (D : Int))) = (z2 : Int) := by
        refine sub_mulD (N := u2 * 4294967296 + v0) ?_ hz2.out.2 _ (by rw [IntKind.wrap_u64, IntKind.wrap_u64]; omega)
        rw [Q1.out, ← hX.out.hD, ← hz2.out.1]; exact Nat.div_add_mod' _ _
       go_wp2_with fail
       go_ret2
       exact ⟨_, rfl, 0, rfl⟩

structure Nums3 (hi lo y u a b m v1 v0 D : Nat) : Prop where
 hD : D = a * 4294967296 + b
 hu : u < a * 4294967296 + b
 ha : 2147483648 ≤ a
 ha' : a < 4294967296
 hb : b < 4294967296
 hv1 : v1 < 4294967296
 hv0 : v0 < 4294967296
 eD : IntKind.u64.wrap ((y : Int) * 8) = (D : Int)
 eD' : (y : Int) * 8 = (D : Int)
 eA : (D : Int) / 4294967296 = (a : Int)
 eB : bits .and .u64 (D : Int) 4294967295 = (b : Int)
 eU : bits .or .u64 ((hi : Int) * 8) ((lo : Int) / 2305843009213693952) = (u : Int)
 eM : IntKind.u64.wrap ((lo : Int) * 8) = (m : Int)
 eV1 : (m : Int) / 4294967296 = (v1 : Int)
 eV0 : bits .and .u64 (m : Int) 4294967295 = (v0 : Int)
 all : u * 18446744073709551616 + (v1 * 4294967296 + v0) = (hi * 18446744073709551616 + lo) * 2 ^ 3
 eY : D = y * 2 ^ 3

theorem nums3 (hi lo y : Nat) (hlo : lo < 18446744073709551616) (hy : 1152921504606846976 ≤ y) (hy2 : y < 2305843009213693952) (hhi : hi < y) : ∃ u a b m v1 v0 D, Nums3 hi lo y u a b m v1 v0 D := by
 refine ⟨hi * 8 + lo / 2305843009213693952, y * 8 / 4294967296, y * 8 % 4294967296, lo * 8 % 18446744073709551616, lo * 8 % 18446744073709551616 / 4294967296, lo * 8 % 18446744073709551616 % 4294967296, y * 8, ?_⟩
 have h1 := bits_or_u64_nat (hi * 8) (lo / 2305843009213693952) (by omega) (by omega)
 have h2 : hi * 8 ||| lo / 2305843009213693952 = hi * 8 + lo / 2305843009213693952 := or_low 3 hi (lo / 2305843009213693952) (by omega)
 rw [h2] at h1
 refine ⟨by omega, by omega, by omega, by omega, by omega, by omega, by omega, by rw [IntKind.wrap_u64]; omega, by omega, by omega, maskN _ (by omega), ?_, by rw [IntKind.wrap_u64]; omega, by omega, maskN _ (by omega), by omega, rfl⟩
 rw [← h1]
 congr 1

set_option maxHeartbeats 8000000 in
set_option maxRecDepth 100000 in
theorem div_3 (hi lo y : Nat) (w : World) (hlo : lo < 18446744073709551616) (hy : 1152921504606846976 ≤ y) (hy2 : y < 2305843009213693952) (hhi : hi < y) (hpos : 0 < hi) :
 Calls Tryz.prog 196 #[.int .u64 hi, .int .u64 lo, .int .u64 y] w (DivPost (((hi * 18446744073709551616 + lo) % y : Nat) : Int) w) := by
 obtain ⟨res, hres⟩ : ∃ res, Hid ((hi * 18446744073709551616 + lo) % y = res) := ⟨_, rfl⟩
 rw [hres.out]
 have h0 : ((y : Int) == 0) = false := by simp; omega
 have h0' : ((hi : Int) == 0) = false := by simp; omega
 have h1 : ¬ (y : Int) ≤ (hi : Int) := by omega
 have hs : (64 - (Lib.bitLen (y : Int).toNat : Int)) = 3 := by
  rw [Int.toNat_natCast, Lib.bitLen_shift 60 y hy (by omega), show y / 2 ^ 60 = 1 by omega]; rfl
 obtain ⟨u, a, b, m, v1, v0, D, X⟩ := nums3 hi lo y hlo hy hy2 hhi
 have eD := X.eD; have eD' := X.eD'; have eA := X.eA; have eB := X.eB; have eU := X.eU; have eM := X.eM; have eV1 := X.eV1; have eV0 := X.eV0
 have hA := X.ha; have hA' := X.ha'; have hB := X.hb; have hV1 := X.hv1; have hV0 := X.hv0
 have na : (0 : Int) ≤ (a : Int) := by omega
 have nu : (0 : Int) ≤ (u : Int) := by omega
 have haz : ((a : Int) == 0) = false := by simp; omega
 have huB : u < 18446744073709551616 := by have := X.hu; omega
 have G0 := Lib.hid (Grp.guess_start (v := v1) X.ha X.ha' X.hb X.hv1 X.hu)
 obtain ⟨q, hq⟩ : ∃ q, u / a = q := ⟨_, rfl⟩
 obtain ⟨r, hr⟩ : ∃ r, u % a = r := ⟨_, rfl⟩
 rw [hq, hr] at G0
 have eq1 : IntKind.u64.wrap ((u : Int) / (a : Int)) = (q : Int) := by
  rw [← Int.natCast_ediv, hq]; exact wrapN _ (by have := G0.out.le; omega)
 have er1 : IntKind.u64.wrap ((u : Int) - IntKind.u64.wrap ((q : Int) * (a : Int))) = (r : Int) := sub_mulD (N := u) G0.out.sum (by have := G0.out.rl; omega) _ rfl
 have hX := Lib.hid X
 clear hq hr X
 go_enter Tryz.func196, Tryz.ntmps196
 go_wp2_with fail
 refine (Tryz.bits_LeadingZeros64 (y : Int) _ (by omega) (by omega)).mono ?_
 rintro e w' ⟨rfl, hw⟩
 rw [hw, hs]
 clear hw hs
 go_wp2_with fail
 clear eD eD' eA eB eU eM eV1 eV0 eq1 er1 h0 h0' h1
 have U0 := Lib.hid hX.out.hu
 go_loop [15, 16] (fun x z => ∃ q0 r0 : Nat, x = .int .u64 q0 ∧ z = .int .u64 r0 ∧ Grp.Guess u v1 a b q0 r0) (fun x _ => (intOf x).toNat)
 case atStart => exact ⟨_, _, rfl, rfl, G0.out⟩
 case round =>
  obtain ⟨q0, r0, rfl, rfl, g0⟩ := hrel
  have L0 := g0.le; have R0 := g0.rl
  have H0 := Lib.hid g0
  clear g0
  by_cases t0 : 4294967296 ≤ q0 ∨ 4294967296 * r0 + v1 < q0 * b
  · have d0 := Lib.hid (Grp.guess_down hX.out.hv1 U0.out H0.out t0)
    obtain ⟨p0, hp0⟩ : ∃ p, q0 = p + 1 := ⟨q0 - 1, by have := Nat.lt_of_le_of_lt (Nat.zero_le _) d0.out; omega⟩
    have ep0a : IntKind.u64.wrap ((q0 : Int) - 1) = (p0 : Int) := by rw [show (q0 : Int) - 1 = (p0 : Int) by omega]; exact wrapN _ (by omega)
    have es0 : IntKind.u64.wrap ((r0 : Int) + (a : Int)) = ((r0 + a : Nat) : Int) := by rw [← Int.natCast_add]; exact wrapN _ (by omega)
    obtain ⟨r0a, hra0⟩ : ∃ x, r0 + a = x := ⟨_, rfl⟩
    rw [hra0] at es0
    have tt0 : (decide ((4294967296 : Int) ≤ (q0 : Int)) = true) ∨ (decide ((4294967296 : Int) ≤ (q0 : Int)) = false ∧ decide (IntKind.u64.wrap (IntKind.u64.wrap (4294967296 * (r0 : Int)) + (v1 : Int)) < IntKind.u64.wrap ((q0 : Int) * (b : Int))) = true) := by
     by_cases c : 4294967296 ≤ q0
     · left; simp; omega
     · right; refine ⟨by simp; omega, ?_⟩
       have hm : q0 * b ≤ 4294967296 * 4294967295 := Nat.mul_le_mul (by omega) (by omega)
       rw [← Int.natCast_mul, wrapN (q0 * b) (by omega), IntKind.wrap_u64, IntKind.wrap_u64]
       generalize q0 * b = mm at *
       simp only [decide_eq_true_eq]; omega
    have hq10 : q0 - 1 = p0 := by omega
    by_cases k0 : 4294967296 ≤ r0 + a
    · have Q0 := Lib.hid (Grp.guess_break (by omega) hX.out.hb U0.out d0.out H0.out k0)
      rw [hq10] at Q0
      have kk0 : (decide ((4294967296 : Int) ≤ (r0a : Int))) = true := by simp; omega
      have hp0' := Lib.hid hp0; clear t0 k0 L0 R0 hq10 hra0 hp0
      obtain ⟨u2, hu2⟩ : ∃ u2, Hid ((u * 4294967296 + v1) % D = u2) := ⟨_, rfl⟩
      have hDp : 0 < D := by have := hX.out.hD; omega
      have hDl : D < 18446744073709551616 := by have := hX.out.hD; omega
      have U1 : Hid (u2 < a * 4294967296 + b) := by show _ < _; rw [← hX.out.hD, ← hu2.out]; exact Nat.mod_lt _ hDp
      have e2 : IntKind.u64.wrap (IntKind.u64.wrap (IntKind.u64.wrap ((u : Int) * 4294967296) + (v1 : Int)) - IntKind.u64.wrap ((p0 : Int) * (D : Int))) = (u2 : Int) := by
       refine sub_mulD (N := u * 4294967296 + v1) ?_ (by have := U1.out; omega) _ (by rw [IntKind.wrap_u64, IntKind.wrap_u64]; omega)
       rw [Q0.out, ← hX.out.hD, ← hu2.out]; exact Nat.div_add_mod' _ _
      have G1 := Lib.hid (Grp.guess_start (v := v0) hX.out.ha hX.out.ha' hX.out.hb hX.out.hv0 U1.out)
      obtain ⟨qs, hqs⟩ : ∃ q, u2 / a = q := ⟨_, rfl⟩
      obtain ⟨rs, hrs⟩ : ∃ r, u2 % a = r := ⟨_, rfl⟩
      rw [hqs, hrs] at G1
      have eq2 : IntKind.u64.wrap ((u2 : Int) / (a : Int)) = (qs : Int) := by
       rw [← Int.natCast_ediv, hqs]; exact wrapN _ (by have := G1.out.le; omega)
      have er2 : IntKind.u64.wrap ((u2 : Int) - IntKind.u64.wrap ((qs : Int) * (a : Int))) = (rs : Int) := sub_mulD (N := u2) G1.out.sum (by have := G1.out.rl; omega) _ rfl
      have nu2 : (0 : Int) ≤ (u2 : Int) := by omega
      have hu2B : u2 < 18446744073709551616 := by have := U1.out; omega
      obtain ⟨z2, hz2⟩ : ∃ z2, Hid ((u2 * 4294967296 + v0) % D = z2 ∧ z2 < 18446744073709551616) := ⟨_, rfl, Nat.lt_trans (Nat.mod_lt _ hDp) hDl⟩
      have nz2 : (0 : Int) ≤ (z2 : Int) := by omega
      have efin : (z2 : Int) / 8 = (res : Int) := by
       have h := Grp.two_steps (s := 3) hX.out.all (show 0 < y by omega)
       rw [← hX.out.eY, hu2.out, hz2.out.1, hres.out] at h
       rw [h]; omega
      clear hqs hrs hDp hDl
      rcases tt0 with tt0 | ⟨tt0, tu0⟩
      all_goals
       go_wp2_with fail
       clear e2 eq2 er2
       go_loop [18, 16] (fun x z => ∃ q1 r1 : Nat, x = .int .u64 q1 ∧ z = .int .u64 r1 ∧ Grp.Guess u2 v0 a b q1 r1) (fun x _ => (intOf x).toNat)
       case atStart => exact ⟨_, _, rfl, rfl, G1.out⟩
       case round =>
        obtain ⟨q1, r1, rfl, rfl, g1⟩ := hrel
        have L1 := g1.le; have R1 := g1.rl
        have H1 := Lib.hid g1
        clear g1
        by_cases t1 : 4294967296 ≤ q1 ∨ 4294967296 * r1 + v0 < q1 * b
        · have d1 := Lib.hid (Grp.guess_down hX.out.hv0 U1.out H1.out t1)
          obtain ⟨p1, hp1⟩ : ∃ p, q1 = p + 1 := ⟨q1 - 1, by have := Nat.lt_of_le_of_lt (Nat.zero_le _) d1.out; omega⟩
          have ep1a : IntKind.u64.wrap ((q1 : Int) - 1) = (p1 : Int) := by rw [show (q1 : Int) - 1 = (p1 : Int) by omega]; exact wrapN _ (by omega)
          have es1 : IntKind.u64.wrap ((r1 : Int) + (a : Int)) = ((r1 + a : Nat) : Int) := by rw [← Int.natCast_add]; exact wrapN _ (by omega)
          obtain ⟨r1a, hra1⟩ : ∃ x, r1 + a = x := ⟨_, rfl⟩
          rw [hra1] at es1
          have tt1 : (decide ((4294967296 : Int) ≤ (q1 : Int)) = true) ∨ (decide ((4294967296 : Int) ≤ (q1 : Int)) = false ∧ decide (IntKind.u64.wrap (IntKind.u64.wrap (4294967296 * (r1 : Int)) + (v0 : Int)) < IntKind.u64.wrap ((q1 : Int) * (b : Int))) = true) := by
           by_cases c : 4294967296 ≤ q1
           · left; simp; omega
           · right; refine ⟨by simp; omega, ?_⟩
             have hm : q1 * b ≤ 4294967296 * 4294967295 := Nat.mul_le_mul (by omega) (by omega)
             rw [← Int.natCast_mul, wrapN (q1 * b) (by omega), IntKind.wrap_u64, IntKind.wrap_u64]
             generalize q1 * b = mm at *
             simp only [decide_eq_true_eq]; omega
          have hq11 : q1 - 1 = p1 := by omega
          by_cases k1 : 4294967296 ≤ r1 + a
          · have Q1 := Lib.hid (Grp.guess_break (by omega) hX.out.hb U1.out d1.out H1.out k1)
            rw [hq11] at Q1
            have kk1 : (decide ((4294967296 : Int) ≤ (r1a : Int))) = true := by simp; omega
            have hp1' := Lib.hid hp1; clear t1 k1 L1 R1 hq11 hra1 hp1
            have ef : IntKind.u64.wrap (IntKind.u64.wrap (IntKind.u64.wrap ((u2 : Int) * 4294967296) + (v0 : Int)) - IntKind.u64.wrap ((p1 : Int) * (D : Int))) = (z2 : Int) := by
             refine sub_mulD (N := u2 * 4294967296 + v0) ?_ hz2.out.2 _ (by rw [IntKind.wrap_u64, IntKind.wrap_u64]; omega)
             rw [Q1.out, ← hX.out.hD, ← hz2.out.1]; exact Nat.div_add_mod' _ _
            rcases tt1 with tt1 | ⟨tt1, tu1⟩
            all_goals
             go_wp2_with fail
             go_ret2
             exact ⟨_, rfl, 0, rfl⟩
          · have N1 := Lib.hid (Grp.guess_next (by omega) d1.out H1.out (by omega))
            rw [hq11, hra1] at N1
            have kk1 : (decide ((4294967296 : Int) ≤ (r1a : Int))) = false := by simp; omega
            have hp1' := Lib.hid hp1; clear t1 k1 L1 R1 hq11 hra1 hp1
            rcases tt1 with tt1 | ⟨tt1, tu1⟩
            all_goals
             go_wp2_with fail
             go_round
             case rel => exact ⟨_, _, rfl, rfl, N1.out⟩
             case measure => have := hp1'.out; simp [intOf]; omega
        · have Q1 := Lib.hid (Grp.guess_done U1.out H1.out (by omega))
          have tt1 : decide ((4294967296 : Int) ≤ (q1 : Int)) = false := by simp; omega
          have tu1 : decide (IntKind.u64.wrap (IntKind.u64.wrap (4294967296 * (r1 : Int)) + (v0 : Int)) < IntKind.u64.wrap ((q1 : Int) * (b : Int))) = false := by
           have hm : q1 * b ≤ 4294967296 * 4294967295 := Nat.mul_le_mul (by omega) (by omega)
           rw [← Int.natCast_mul, wrapN (q1 * b) (by omega), IntKind.wrap_u64, IntKind.wrap_u64]
           generalize q1 * b = mm at *
           simp only [decide_eq_false_iff_not]; omega
          clear t1 L1 R1
          have ef : IntKind.u64.wrap (IntKind.u64.wrap (IntKind.u64.wrap ((u2 : Int) * 4294967296) + (v0 : Int)) - IntKind.u64.wrap ((q1 : Int) * (D : Int))) = (z2 : Int) := by
           refine sub_mulD (N := u2 * 4294967296 + v0) ?_ hz2.out.2 _ (by rw [IntKind.wrap_u64, IntKind.wrap_u64]; omega)
           rw [Q1.out, ← hX.out.hD, ← hz2.out.1]; exact Nat.div_add_mod' _ _
          go_wp2_with fail
          go_ret2
          exact ⟨_, rfl, 0, rfl⟩
    · have N0 := Lib.hid (Grp.guess_next (by omega) d0.out H0.out (by omega))
      rw [hq10, hra0] at N0
      have kk0 : (decide ((4294967296 : Int) ≤ (r0a : Int))) = false := by simp; omega
      have hp0' := Lib.hid hp0; clear t0 k0 L0 R0 hq10 hra0 hp0
      rcases tt0 with tt0 | ⟨tt0, tu0⟩
      all_goals
       go_wp2_with fail
       go_round
       case rel => exact ⟨_, _, rfl, rfl, N0.out⟩
       case measure => have := hp0'.out; simp [intOf]; omega
  · have Q0 := Lib.hid (Grp.guess_done U0.out H0.out (by omega))
    have tt0 : decide ((4294967296 : Int) ≤ (q0 : Int)) = false := by simp; omega
    have tu0 : decide (IntKind.u64.wrap (IntKind.u64.wrap (4294967296 * (r0 : Int)) + (v1 : Int)) < IntKind.u64.wrap ((q0 : Int) * (b : Int))) = false := by
     have hm : q0 * b ≤ 4294967296 * 4294967295 := Nat.mul_le_mul (by omega) (by omega)
     rw [← Int.natCast_mul, wrapN (q0 * b) (by omega), IntKind.wrap_u64, IntKind.wrap_u64]
     generalize q0 * b = mm at *
     simp only [decide_eq_false_iff_not]; omega
    clear t0 L0 R0
    obtain ⟨u2, hu2⟩ : ∃ u2, Hid ((u * 4294967296 + v1) % D = u2) := ⟨_, rfl⟩
    have hDp : 0 < D := by have := hX.out.hD; omega
    have hDl : D < 18446744073709551616 := by have := hX.out.hD; omega
    have U1 : Hid (u2 < a * 4294967296 + b) := by show _ < _; rw [← hX.out.hD, ← hu2.out]; exact Nat.mod_lt _ hDp
    have e2 : IntKind.u64.wrap (IntKind.u64.wrap (IntKind.u64.wrap ((u : Int) * 4294967296) + (v1 : Int)) - IntKind.u64.wrap ((q0 : Int) * (D : Int))) = (u2 : Int) := by
     refine sub_mulD (N := u * 4294967296 + v1) ?_ (by have := U1.out; omega) _ (by rw [IntKind.wrap_u64, IntKind.wrap_u64]; omega)
     rw [Q0.out, ← hX.out.hD, ← hu2.out]; exact Nat.div_add_mod' _ _
    have G1 := Lib.hid (Grp.guess_start (v := v0) hX.out.ha hX.out.ha' hX.out.hb hX.out.hv0 U1.out)
    obtain ⟨qs, hqs⟩ : ∃ q, u2 / a = q := ⟨_, rfl⟩
    obtain ⟨rs, hrs⟩ : ∃ r, u2 % a = r := ⟨_, rfl⟩
    rw [hqs, hrs] at G1
    have eq2 : IntKind.u64.wrap ((u2 : Int) / (a : Int)) = (qs : Int) := by
     rw [← Int.natCast_ediv, hqs]; exact wrapN _ (by have := G1.out.le; omega)
    have er2 : IntKind.u64.wrap ((u2 : Int) - IntKind.u64.wrap ((qs : Int) * (a : Int))) = (rs : Int) := sub_mulD (N := u2) G1.out.sum (by have := G1.out.rl; omega) _ rfl
    have nu2 : (0 : Int) ≤ (u2 : Int) := by omega
    have hu2B : u2 < 18446744073709551616 := by have := U1.out; omega
    obtain ⟨z2, hz2⟩ : ∃ z2, Hid ((u2 * 4294967296 + v0) % D = z2 ∧ z2 < 18446744073709551616) := ⟨_, rfl, Nat.lt_trans (Nat.mod_lt _ hDp) hDl⟩
    have nz2 : (0 : Int) ≤ (z2 : Int) := by omega
    have efin : (z2 : Int) / 8 = (res : Int) := by
     have h := Grp.two_steps (s := 3) hX.out.all (show 0 < y by omega)
     rw [← hX.out.eY, hu2.out, hz2.out.1, hres.out] at h
     rw [h]; omega
    clear hqs hrs hDp hDl
    go_wp2_with fail
    clear e2 eq2 er2
    go_loop [18, 16] (fun x z => ∃ q1 r1 : Nat, x = .int .u64 q1 ∧ z = .int .u64 r1 ∧ Grp.Guess u2 v0 a b q1 r1) (fun x _ => (intOf x).toNat)
    case atStart => exact ⟨_, _, rfl, rfl, G1.out⟩
    case round =>
     obtain ⟨q1, r1, rfl, rfl, g1⟩ := hrel
     have L1 := g1.le; have R1 := g1.rl
     have H1 := Lib.hid g1
     clear g1
     by_cases t1 : 4294967296 ≤ q1 ∨ 4294967296 * r1 + v0 < q1 * b
     · have d1 := Lib.hid (Grp.guess_down hX.out.hv0 U1.out H1.out t1)
       obtain ⟨p1, hp1⟩ : ∃ p, q1 = p + 1 := ⟨q1 - 1, by have := Nat.lt_of_le_of_lt (Nat.zero_le _) d1.out; omega⟩
       have ep1a : IntKind.u64.wrap ((q1 : Int) - 1) = (p1 : Int) := by rw [show (q1 : Int) - 1 = (p1 : Int) by omega]; exact wrapN _ (by omega)
       have es1 : IntKind.u64.wrap ((r1 : Int) + (a : Int)) = ((r1 + a : Nat) : Int) := by rw [← Int.natCast_add]; exact wrapN _ (by omega)
       obtain ⟨r1a, hra1⟩ : ∃ x, r1 + a = x := ⟨_, rfl⟩
       rw [hra1] at es1
       have tt1 : (decide ((4294967296 : Int) ≤ (q1 : Int)) = true) ∨ (decide ((4294967296 : Int) ≤ (q1 : Int)) = false ∧ decide (IntKind.u64.wrap (IntKind.u64.wrap (4294967296 * (r1 : Int)) + (v0 : Int)) < IntKind.u64.wrap ((q1 : Int) * (b : Int))) = true) := by
        by_cases c : 4294967296 ≤ q1
        · left; simp; omega
        · right; refine ⟨by simp; omega, ?_⟩
          have hm : q1 * b ≤ 4294967296 * 4294967295 := Nat.mul_le_mul (by omega) (by omega)
          rw [← Int.natCast_mul, wrapN (q1 * b) (by omega), IntKind.wrap_u64, IntKind.wrap_u64]
          generalize q1 * b = mm at *
          simp only [decide_eq_true_eq]; omega
       have hq11 : q1 - 1 = p1 := by omega
       by_cases k1 : 4294967296 ≤ r1 + a
       · have Q1 := Lib.hid (Grp.guess_break (by omega) hX.out.hb U1.out d1.out H1.out k1)
         rw [hq11] at Q1
         have kk1 : (decide ((4294967296 : Int) ≤ (r1a : Int))) = true := by simp; omega
         have hp1' := Lib.hid hp1; clear t1 k1 L1 R1 hq11 hra1 hp1
         have ef : IntKind.u64.wrap (IntKind.u64.wrap (IntKind.u64.wrap ((u2 : Int) * 4294967296) + (v0 : Int)) - IntKind.u64.wrap ((p1 : Int) * (D : Int))) = (z2 : Int) := by
          refine sub_mulD (N := u2 * 4294967296 + v0) ?_ hz2.out.2 _ (by rw [IntKind.wrap_u64, IntKind.wrap_u64]; omega)
          rw [Q1.out, ← hX.out.hD, ← hz2.out.1]; exact Nat.div_add_mod' _ _
         rcases tt1 with tt1 | ⟨tt1, tu1⟩
         all_goals
          go_wp2_with fail
          go_ret2
          exact ⟨_, rfl, 0, rfl⟩
       · have N1 := Lib.hid (Grp.guess_next (by omega) d1.out H1.out (by omega))
         rw [hq11, hra1] at N1
         have kk1 : (decide ((4294967296 : Int) ≤ (r1a : Int))) = false := by simp; omega
         have hp1' := Lib.hid hp1; clear t1 k1 L1 R1 hq11 hra1 hp1
         rcases tt1 with tt1 | ⟨tt1, tu1⟩
         all_goals
          go_wp2_with fail
          go_round
          case rel => exact ⟨_, _, rfl, rfl, N1.out⟩
          case measure => have := hp1'.out; simp [intOf]; omega
     · have Q1 := Lib.hid (Grp.guess_done U1.out H1.out (by omega))
       have tt1 : decide ((4294967296 : Int) ≤ (q1 : Int)) = false := by simp; omega
       have tu1 : decide (IntKind.u64.wrap (IntKind.u64.wrap (4294967296 * (r1 : Int)) + (v0 : Int)) < IntKind.u64.wrap ((q1 : Int) * (b : Int))) = false := by
        have hm : q1 * b ≤ 4294967296 * 4294967295 := Nat.mul_le_mul (by omega) (by omega)
        rw [← Int.natCast_mul, wrapN (q1 * b) (by omega), IntKind.wrap_u64, IntKind.wrap_u64]
        generalize q1 * b = mm at *
        simp only [decide_eq_false_iff_not]; omega
       clear t1 L1 R1
       have ef : IntKind.u64.wrap (IntKind.u64.wrap (IntKind.u64.wrap ((u2 : Int) * 4294967296) + (v0 : Int)) - IntKind.u64.wrap ((q1 : Int) * (D : Int))) = (z2 : Int) := by
        refine sub_mulD (N := u2 * 4294967296 + v0) ?_ hz2.out.2 _ (by rw [IntKind.wrap_u64, IntKind.wrap_u64]; omega)
        rw [Q1.out, ← hX.out.hD, ← hz2.out.1]; exact Nat.div_add_mod' _ _
       go_wp2_with fail
       go_ret2
       exact ⟨_, rfl, 0, rfl⟩

end Go.Proofs.YtnonfdcbnkdmcaaGreatDoor
