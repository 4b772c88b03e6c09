/- TallyLattice: the walk -/
import Derived.Test.YtlmngdcifappoaaL
namespace Tally
theorem lattice {a b c : List Tl} (ha : chk a = true) (hb : chk b = true) (hc : chk c = true) : ∃ ab bc x, joinSpec a b = (ab, 0) ∧ joinSpec b a = (ab, 0) ∧ joinSpec b c = (bc, 0) ∧ joinSpec ab c = (x, 0) ∧ joinSpec a bc = (x, 0) ∧ joinSpec ab b = (ab, 0) ∧ joinSpec a a = (a, 0) ∧ chk ab = true ∧ ab.length ≤ a.length + b.length ∧ bc.length ≤ b.length + c.length := by
  have cab := join_chk ha hb
  have cbc := join_chk hb hc
  refine ⟨join a b, join b c, join (join a b) c, joinSpec_t ha hb, ?_, joinSpec_t hb hc, joinSpec_t cab hc, ?_, ?_, ?_, cab, join_length _ _, join_length _ _⟩
  · rw [joinSpec_t hb ha, join_comm hb ha]
  · rw [joinSpec_t ha cbc, join_assoc ha hb hc]
  · rw [joinSpec_t cab hb, join_absorb ha hb]
  · rw [joinSpec_t ha ha, join_self ha]
end Tally
namespace Go.Proofs.Ytlmngdcifappoaa
open Go.RowKit
open Tally (Tl)

set_option maxHeartbeats 4000000 in
set_option maxRecDepth 100000 in
theorem lattice_walk (a0 a1 a2 : Option Addr) (n0 c0 n1 c1 n2 c2 : Nat) (l0 l1 l2 : List Tl) (w : World) (H0 : TS w a0 n0 c0 l0) (H1 : TS w a1 n1 c1 l1) (H2 : TS w a2 n2 c2 l2) :
    Calls Try.prog 6 #[.slice a0 n0 c0, .slice a1 n1 c1, .slice a2 n2 c2] w (Tr w) := by
  by_cases hn : n0 ≤ 60 ∧ n1 ≤ 60
  · have hf : (decide (n0 ≤ 60) && decide (n1 ≤ 60)) = true := by simp [hn.1, hn.2]
    by_cases hm : n2 ≤ 60
    · have hf2 : (decide (n2 ≤ 60) && decide (0 ≤ 60)) = true := by simp [hm]
      by_cases q0 : Tally.chk l0 = true
      · have k0 := Tally.chkE_t q0
        by_cases q1 : Tally.chk l1 = true
        · have k1 := Tally.chkE_t q1
          by_cases q2 : Tally.chk l2 = true
          · have k2 := Tally.chkE_t q2
            obtain ⟨ab, bc, x, e1, e2, e3, e4, e5, e6, e7, cab, len1, len2⟩ := Tally.lattice q0 q1 q2
            have e1 := Lib.hid e1; have e2 := Lib.hid e2; have e3 := Lib.hid e3; have e4 := Lib.hid e4; have e5 := Lib.hid e5; have e6 := Lib.hid e6; have e7 := Lib.hid e7
            have kab := Tally.chkE_t cab; have s1 := Tally.same_self ab; have s2 := Tally.same_self x; have s3 := Tally.same_self l0
            have hl0 := H0.len; have hl1 := H1.len; have hl2 := H2.len
            rw [hl0, hl1] at len1; rw [hl1, hl2] at len2
            have hn0 := Lib.hid (show n0 ≤ 1000 by omega); have hn1 := Lib.hid (show n1 ≤ 1000 by omega); have hn2 := Lib.hid (show n2 ≤ 1000 by omega); have hab := Lib.hid (show ab.length ≤ 1000 by omega); have hbc := Lib.hid (show bc.length ≤ 1000 by omega)
            clear q0 q1 q2 cab len1 len2 hl0 hl1 hl2
            go_enter Try.func6, Try.ntmps6
            go_wp2_with fail
            refine (sane_any w).mono ?_
            rintro e w1 ⟨rfl, hb1⟩
            have TA1 := H0.below hb1 (Nat.le_refl _)
            have TB1 := H1.below hb1 (Nat.le_refl _)
            have TC1 := H2.below hb1 (Nat.le_refl _)
            go_wp2_with fail
            refine (few_any _ _ _ _ _ _ _).mono ?_
            rintro e w' ⟨rfl, rfl⟩
            go_wp2_with fail
            refine (few_any _ _ _ _ _ _ _).mono ?_
            rintro e w' ⟨rfl, rfl⟩
            go_wp2_with fail
            refine (check_any a0 n0 c0 l0 w1 TA1).mono ?_
            rintro e w2 ⟨rfl, hb2⟩
            have TA2 := TA1.below hb2 (Nat.le_refl _)
            have TB2 := TB1.below hb2 (Nat.le_refl _)
            have TC2 := TC1.below hb2 (Nat.le_refl _)
            have hB2 := hb1.trans (hb2.mono hb1.size)
            go_wp2_with fail
            refine (check_any a1 n1 c1 l1 w2 TB2).mono ?_
            rintro e w3 ⟨rfl, hb3⟩
            have TA3 := TA2.below hb3 (Nat.le_refl _)
            have TB3 := TB2.below hb3 (Nat.le_refl _)
            have TC3 := TC2.below hb3 (Nat.le_refl _)
            have hB3 := hB2.trans (hb3.mono hB2.size)
            go_wp2_with fail
            refine (check_any a2 n2 c2 l2 w3 TC3).mono ?_
            rintro e w4 ⟨rfl, hb4⟩
            have TA4 := TA3.below hb4 (Nat.le_refl _)
            have TB4 := TB3.below hb4 (Nat.le_refl _)
            have TC4 := TC3.below hb4 (Nat.le_refl _)
            have hB4 := hB3.trans (hb4.mono hB3.size)
            go_wp2_with fail
            refine (join_t a0 a1 n0 c0 n1 c1 l0 l1 w4 TA4 TB4 hn0.out hn1.out ab ab.length 0 e1.out rfl).mono ?_
            rintro e w5 ⟨Xa, Xc, rfl, TX, hb5⟩
            have TA5 := TA4.below hb5 (Nat.le_refl _)
            have TB5 := TB4.below hb5 (Nat.le_refl _)
            have TC5 := TC4.below hb5 (Nat.le_refl _)
            have hB5 := hB4.trans (hb5.mono hB4.size)
            go_wp2_with fail
            refine (join_t a1 a0 n1 c1 n0 c0 l1 l0 w5 TB5 TA5 hn1.out hn0.out ab ab.length 0 e2.out rfl).mono ?_
            rintro e w6 ⟨Ya, Yc, rfl, TY, hb6⟩
            have TA6 := TA5.below hb6 (Nat.le_refl _)
            have TB6 := TB5.below hb6 (Nat.le_refl _)
            have TC6 := TC5.below hb6 (Nat.le_refl _)
            have TX6 := TX.below hb6 (Nat.le_refl _)
            have hB6 := hB5.trans (hb6.mono hB5.size)
            go_wp2_with fail
            refine (join_t a1 a2 n1 c1 n2 c2 l1 l2 w6 TB6 TC6 hn1.out hn2.out bc bc.length 0 e3.out rfl).mono ?_
            rintro e w7 ⟨Za, Zc, rfl, TZ, hb7⟩
            have TA7 := TA6.below hb7 (Nat.le_refl _)
            have TB7 := TB6.below hb7 (Nat.le_refl _)
            have TC7 := TC6.below hb7 (Nat.le_refl _)
            have TX7 := TX6.below hb7 (Nat.le_refl _)
            have TY7 := TY.below hb7 (Nat.le_refl _)
            have hB7 := hB6.trans (hb7.mono hB6.size)
            go_wp2_with fail
            refine (join_t Xa a2 ab.length Xc n2 c2 ab l2 w7 TX7 TC7 hab.out hn2.out x x.length 0 e4.out rfl).mono ?_
            rintro e w8 ⟨Ua, Uc, rfl, TU, hb8⟩
            have TA8 := TA7.below hb8 (Nat.le_refl _)
            have TB8 := TB7.below hb8 (Nat.le_refl _)
            have TC8 := TC7.below hb8 (Nat.le_refl _)
            have TX8 := TX7.below hb8 (Nat.le_refl _)
            have TY8 := TY7.below hb8 (Nat.le_refl _)
            have TZ8 := TZ.below hb8 (Nat.le_refl _)
            have hB8 := hB7.trans (hb8.mono hB7.size)
            go_wp2_with fail
            refine (join_t a0 Za n0 c0 bc.length Zc l0 bc w8 TA8 TZ8 hn0.out hbc.out x x.length 0 e5.out rfl).mono ?_
            rintro e w9 ⟨Va, Vc, rfl, TV, hb9⟩
            have TA9 := TA8.below hb9 (Nat.le_refl _)
            have TB9 := TB8.below hb9 (Nat.le_refl _)
            have TC9 := TC8.below hb9 (Nat.le_refl _)
            have TX9 := TX8.below hb9 (Nat.le_refl _)
            have TY9 := TY8.below hb9 (Nat.le_refl _)
            have TZ9 := TZ8.below hb9 (Nat.le_refl _)
            have TU9 := TU.below hb9 (Nat.le_refl _)
            have hB9 := hB8.trans (hb9.mono hB8.size)
            go_wp2_with fail
            refine (join_t Xa a1 ab.length Xc n1 c1 ab l1 w9 TX9 TB9 hab.out hn1.out ab ab.length 0 e6.out rfl).mono ?_
            rintro e w10 ⟨Ra, Rc, rfl, TR, hb10⟩
            have TA10 := TA9.below hb10 (Nat.le_refl _)
            have TB10 := TB9.below hb10 (Nat.le_refl _)
            have TC10 := TC9.below hb10 (Nat.le_refl _)
            have TX10 := TX9.below hb10 (Nat.le_refl _)
            have TY10 := TY9.below hb10 (Nat.le_refl _)
            have TZ10 := TZ9.below hb10 (Nat.le_refl _)
            have TU10 := TU9.below hb10 (Nat.le_refl _)
            have TV10 := TV.below hb10 (Nat.le_refl _)
            have hB10 := hB9.trans (hb10.mono hB9.size)
            go_wp2_with fail
            refine (join_t a0 a0 n0 c0 n0 c0 l0 l0 w10 TA10 TA10 hn0.out hn0.out l0 l0.length 0 e7.out rfl).mono ?_
            rintro e w11 ⟨Sa, Sc, rfl, TS, hb11⟩
            have TA11 := TA10.below hb11 (Nat.le_refl _)
            have TB11 := TB10.below hb11 (Nat.le_refl _)
            have TC11 := TC10.below hb11 (Nat.le_refl _)
            have TX11 := TX10.below hb11 (Nat.le_refl _)
            have TY11 := TY10.below hb11 (Nat.le_refl _)
            have TZ11 := TZ10.below hb11 (Nat.le_refl _)
            have TU11 := TU10.below hb11 (Nat.le_refl _)
            have TV11 := TV10.below hb11 (Nat.le_refl _)
            have TR11 := TR.below hb11 (Nat.le_refl _)
            have hB11 := hB10.trans (hb11.mono hB10.size)
            go_wp2_with fail
            refine (same_any Xa Ya ab.length Xc ab.length Yc ab ab w11 TX11 TY11).mono ?_
            rintro e w12 ⟨rfl, hb12⟩
            have TA12 := TA11.below hb12 (Nat.le_refl _)
            have TB12 := TB11.below hb12 (Nat.le_refl _)
            have TC12 := TC11.below hb12 (Nat.le_refl _)
            have TX12 := TX11.below hb12 (Nat.le_refl _)
            have TY12 := TY11.below hb12 (Nat.le_refl _)
            have TZ12 := TZ11.below hb12 (Nat.le_refl _)
            have TU12 := TU11.below hb12 (Nat.le_refl _)
            have TV12 := TV11.below hb12 (Nat.le_refl _)
            have TR12 := TR11.below hb12 (Nat.le_refl _)
            have TS12 := TS.below hb12 (Nat.le_refl _)
            have hB12 := hB11.trans (hb12.mono hB11.size)
            go_wp2_with fail
            refine (same_any Ua Va x.length Uc x.length Vc x x w12 TU12 TV12).mono ?_
            rintro e w13 ⟨rfl, hb13⟩
            have TA13 := TA12.below hb13 (Nat.le_refl _)
            have TB13 := TB12.below hb13 (Nat.le_refl _)
            have TC13 := TC12.below hb13 (Nat.le_refl _)
            have TX13 := TX12.below hb13 (Nat.le_refl _)
            have TY13 := TY12.below hb13 (Nat.le_refl _)
            have TZ13 := TZ12.below hb13 (Nat.le_refl _)
            have TU13 := TU12.below hb13 (Nat.le_refl _)
            have TV13 := TV12.below hb13 (Nat.le_refl _)
            have TR13 := TR12.below hb13 (Nat.le_refl _)
            have TS13 := TS12.below hb13 (Nat.le_refl _)
            have hB13 := hB12.trans (hb13.mono hB12.size)
            go_wp2_with fail
            refine (same_any Ra Xa ab.length Rc ab.length Xc ab ab w13 TR13 TX13).mono ?_
            rintro e w14 ⟨rfl, hb14⟩
            have TA14 := TA13.below hb14 (Nat.le_refl _)
            have TB14 := TB13.below hb14 (Nat.le_refl _)
            have TC14 := TC13.below hb14 (Nat.le_refl _)
            have TX14 := TX13.below hb14 (Nat.le_refl _)
            have TY14 := TY13.below hb14 (Nat.le_refl _)
            have TZ14 := TZ13.below hb14 (Nat.le_refl _)
            have TU14 := TU13.below hb14 (Nat.le_refl _)
            have TV14 := TV13.below hb14 (Nat.le_refl _)
            have TR14 := TR13.below hb14 (Nat.le_refl _)
            have TS14 := TS13.below hb14 (Nat.le_refl _)
            have hB14 := hB13.trans (hb14.mono hB13.size)
            go_wp2_with fail
            refine (same_any Sa a0 l0.length Sc n0 c0 l0 l0 w14 TS14 TA14).mono ?_
            rintro e w15 ⟨rfl, hb15⟩
            have TA15 := TA14.below hb15 (Nat.le_refl _)
            have TB15 := TB14.below hb15 (Nat.le_refl _)
            have TC15 := TC14.below hb15 (Nat.le_refl _)
            have TX15 := TX14.below hb15 (Nat.le_refl _)
            have TY15 := TY14.below hb15 (Nat.le_refl _)
            have TZ15 := TZ14.below hb15 (Nat.le_refl _)
            have TU15 := TU14.below hb15 (Nat.le_refl _)
            have TV15 := TV14.below hb15 (Nat.le_refl _)
            have TR15 := TR14.below hb15 (Nat.le_refl _)
            have TS15 := TS14.below hb15 (Nat.le_refl _)
            have hB15 := hB14.trans (hb15.mono hB14.size)
            go_wp2_with fail
            refine (check_any Xa ab.length Xc ab w15 TX15).mono ?_
            rintro e w16 ⟨rfl, hb16⟩
            have TA16 := TA15.below hb16 (Nat.le_refl _)
            have TB16 := TB15.below hb16 (Nat.le_refl _)
            have TC16 := TC15.below hb16 (Nat.le_refl _)
            have TX16 := TX15.below hb16 (Nat.le_refl _)
            have TY16 := TY15.below hb16 (Nat.le_refl _)
            have TZ16 := TZ15.below hb16 (Nat.le_refl _)
            have TU16 := TU15.below hb16 (Nat.le_refl _)
            have TV16 := TV15.below hb16 (Nat.le_refl _)
            have TR16 := TR15.below hb16 (Nat.le_refl _)
            have TS16 := TS15.below hb16 (Nat.le_refl _)
            have hB16 := hB15.trans (hb16.mono hB15.size)
            go_wp2_with fail
            go_ret
            exact ⟨rfl, hB16⟩
          · have k2 := Tally.chkE_f (by simpa using q2 : Tally.chk l2 = false)
            go_enter Try.func6, Try.ntmps6
            go_wp2_with fail
            refine (sane_any w).mono ?_
            rintro e w1 ⟨rfl, hb1⟩
            have TA1 := H0.below hb1 (Nat.le_refl _)
            have TB1 := H1.below hb1 (Nat.le_refl _)
            have TC1 := H2.below hb1 (Nat.le_refl _)
            go_wp2_with fail
            refine (few_any _ _ _ _ _ _ _).mono ?_
            rintro e w' ⟨rfl, rfl⟩
            go_wp2_with fail
            refine (few_any _ _ _ _ _ _ _).mono ?_
            rintro e w' ⟨rfl, rfl⟩
            go_wp2_with fail
            refine (check_any a0 n0 c0 l0 w1 TA1).mono ?_
            rintro e w2 ⟨rfl, hb2⟩
            have TA2 := TA1.below hb2 (Nat.le_refl _)
            have TB2 := TB1.below hb2 (Nat.le_refl _)
            have TC2 := TC1.below hb2 (Nat.le_refl _)
            have hB2 := hb1.trans (hb2.mono hb1.size)
            go_wp2_with fail
            refine (check_any a1 n1 c1 l1 w2 TB2).mono ?_
            rintro e w3 ⟨rfl, hb3⟩
            have TA3 := TA2.below hb3 (Nat.le_refl _)
            have TB3 := TB2.below hb3 (Nat.le_refl _)
            have TC3 := TC2.below hb3 (Nat.le_refl _)
            have hB3 := hB2.trans (hb3.mono hB2.size)
            go_wp2_with fail
            refine (check_any a2 n2 c2 l2 w3 TC3).mono ?_
            rintro e w4 ⟨rfl, hb4⟩
            have TA4 := TA3.below hb4 (Nat.le_refl _)
            have TB4 := TB3.below hb4 (Nat.le_refl _)
            have TC4 := TC3.below hb4 (Nat.le_refl _)
            have hB4 := hB3.trans (hb4.mono hB3.size)
            go_wp2_with fail
            go_ret
            exact ⟨rfl, hB4⟩
        · have k1 := Tally.chkE_f (by simpa using q1 : Tally.chk l1 = false)
          go_enter Try.func6, Try.ntmps6
          go_wp2_with fail
          refine (sane_any w).mono ?_
          rintro e w1 ⟨rfl, hb1⟩
          have TA1 := H0.below hb1 (Nat.le_refl _)
          have TB1 := H1.below hb1 (Nat.le_refl _)
          have TC1 := H2.below hb1 (Nat.le_refl _)
          go_wp2_with fail
          refine (few_any _ _ _ _ _ _ _).mono ?_
          rintro e w' ⟨rfl, rfl⟩
          go_wp2_with fail
          refine (few_any _ _ _ _ _ _ _).mono ?_
          rintro e w' ⟨rfl, rfl⟩
          go_wp2_with fail
          refine (check_any a0 n0 c0 l0 w1 TA1).mono ?_
          rintro e w2 ⟨rfl, hb2⟩
          have TA2 := TA1.below hb2 (Nat.le_refl _)
          have TB2 := TB1.below hb2 (Nat.le_refl _)
          have TC2 := TC1.below hb2 (Nat.le_refl _)
          have hB2 := hb1.trans (hb2.mono hb1.size)
          go_wp2_with fail
          refine (check_any a1 n1 c1 l1 w2 TB2).mono ?_
          rintro e w3 ⟨rfl, hb3⟩
          have TA3 := TA2.below hb3 (Nat.le_refl _)
          have TB3 := TB2.below hb3 (Nat.le_refl _)
          have TC3 := TC2.below hb3 (Nat.le_refl _)
          have hB3 := hB2.trans (hb3.mono hB2.size)
          go_wp2_with fail
          go_ret
          exact ⟨rfl, hB3⟩
      · have k0 := Tally.chkE_f (by simpa using q0 : Tally.chk l0 = false)
        go_enter Try.func6, Try.ntmps6
        go_wp2_with fail
        refine (sane_any w).mono ?_
        rintro e w1 ⟨rfl, hb1⟩
        have TA1 := H0.below hb1 (Nat.le_refl _)
        have TB1 := H1.below hb1 (Nat.le_refl _)
        have TC1 := H2.below hb1 (Nat.le_refl _)
        go_wp2_with fail
        refine (few_any _ _ _ _ _ _ _).mono ?_
        rintro e w' ⟨rfl, rfl⟩
        go_wp2_with fail
        refine (few_any _ _ _ _ _ _ _).mono ?_
        rintro e w' ⟨rfl, rfl⟩
        go_wp2_with fail
        refine (check_any a0 n0 c0 l0 w1 TA1).mono ?_
        rintro e w2 ⟨rfl, hb2⟩
        have TA2 := TA1.below hb2 (Nat.le_refl _)
        have TB2 := TB1.below hb2 (Nat.le_refl _)
        have TC2 := TC1.below hb2 (Nat.le_refl _)
        have hB2 := hb1.trans (hb2.mono hb1.size)
        go_wp2_with fail
        go_ret
        exact ⟨rfl, hB2⟩
    · have hf2 : (decide (n2 ≤ 60) && decide (0 ≤ 60)) = false := by simp [hm]
      go_enter Try.func6, Try.ntmps6
      go_wp2_with fail
      refine (sane_any w).mono ?_
      rintro e w1 ⟨rfl, hb1⟩
      have TA1 := H0.below hb1 (Nat.le_refl _)
      have TB1 := H1.below hb1 (Nat.le_refl _)
      have TC1 := H2.below hb1 (Nat.le_refl _)
      go_wp2_with fail
      refine (few_any _ _ _ _ _ _ _).mono ?_
      rintro e w' ⟨rfl, rfl⟩
      go_wp2_with fail
      refine (few_any _ _ _ _ _ _ _).mono ?_
      rintro e w' ⟨rfl, rfl⟩
      go_wp2_with fail
      go_ret
      exact ⟨rfl, hb1⟩
  · have hf : (decide (n0 ≤ 60) && decide (n1 ≤ 60)) = false := by simp only [Bool.and_eq_false_iff, decide_eq_false_iff_not]; omega
    go_enter Try.func6, Try.ntmps6
    go_wp2_with fail
    refine (sane_any w).mono ?_
    rintro e w1 ⟨rfl, hb1⟩
    have TA1 := H0.below hb1 (Nat.le_refl _)
    have TB1 := H1.below hb1 (Nat.le_refl _)
    have TC1 := H2.below hb1 (Nat.le_refl _)
    go_wp2_with fail
    refine (few_any _ _ _ _ _ _ _).mono ?_
    rintro e w' ⟨rfl, rfl⟩
    go_wp2_with fail
    go_ret
    exact ⟨rfl, hb1⟩

end Go.Proofs.Ytlmngdcifappoaa
