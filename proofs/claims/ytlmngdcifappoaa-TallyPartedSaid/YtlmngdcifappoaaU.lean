/- TallyParted: the walk -/
import Derived.Test.YtlmngdcifappoaaL
import Derived.Test.YtlmngdcifappoaaT
import Derived.OpenShut
namespace Go.Proofs.Ytlmngdcifappoaa
open Go.RowKit
open Tally (Tl)

theorem added_none (a b : Option Addr) (n c m h : Nat) (l : List Tl) (ns : List Int) (d : Int) (w : World) (H : TS w a n c l) (G : IS w b m h ns) (hd : InI d) (hn : n ≤ 100) (hm : m ≤ 8) (hchk : Tally.chk l = true) (hx : Tally.addedSpec d ns l = none) :
    Calls Try.prog 21 #[.slice a n c, .int .i64 d, .slice b m h] w fun e w' => e = .returned (.tuple #[.slice none 0 0, .bool false]) ∧ Below w.heap.size w w' :=
  (added_any a b n c m h l ns d w H G hd hn hm hchk).mono fun e w' ⟨hb, hp⟩ => by rw [hx] at hp; exact ⟨hp, hb⟩
def ASome (x : List Tl) (w : World) (e : Ending) (w' : World) : Prop := ∃ a' c', e = .returned (.tuple #[.slice a' x.length c', .bool true]) ∧ TS w' a' x.length c' x ∧ Below w.heap.size w w'
theorem added_some (a b : Option Addr) (n c m h : Nat) (l : List Tl) (ns : List Int) (d : Int) (w : World) (H : TS w a n c l) (G : IS w b m h ns) (hd : InI d) (hn : n ≤ 100) (hm : m ≤ 8) (hchk : Tally.chk l = true) (x : List Tl) (hx : Tally.addedSpec d ns l = some x) :
    Calls Try.prog 21 #[.slice a n c, .int .i64 d, .slice b m h] w (ASome x w) :=
  (added_any a b n c m h l ns d w H G hd hn hm hchk).mono fun e w' ⟨hb, hp⟩ => by rw [hx] at hp; obtain ⟨a', c', he, T⟩ := hp; exact ⟨a', c', he, T, hb⟩

theorem mask_in (z : Int) : InI (bits .and .i64 z 511) := wf_bounds (wf_bits _ _ _ _)

set_option maxHeartbeats 4000000 in
set_option maxRecDepth 100000 in
theorem parted_walk (a0 a3 a4 : Option Addr) (n0 c0 n3 c3 n4 c4 : Nat) (l0 : List Tl) (u v : Int) (l3 l4 : List Int) (w : World) (H0 : TS w a0 n0 c0 l0) (H3 : IS w a3 n3 c3 l3) (H4 : IS w a4 n4 c4 l4) :
    Calls Try.prog 8 #[.slice a0 n0 c0, .int .i64 u, .int .i64 v, .slice a3 n3 c3, .slice a4 n4 c4] w (Tr w) := by
  by_cases hn0 : n0 ≤ 60
  · have hf : (decide (n0 ≤ 60) && decide (0 ≤ 60)) = true := by simp [hn0]
    by_cases h3a : n3 ≤ 8
    · have h3b : decide (8 < (n3 : Int)) = false := by simp; omega
      by_cases h4a : n4 ≤ 8
      · have h4b : decide (8 < (n4 : Int)) = false := by simp; omega
        have hn := Lib.hid (show n0 ≤ 100 by omega); have h3 := Lib.hid h3a; have h4 := Lib.hid h4a
        clear h3a h4a
        by_cases q : Tally.chk l0 = true
        · have kc := Tally.chkE_t q
          have hq := Lib.hid q
          by_cases hm : bits .and .i64 u 511 = bits .and .i64 v 511
          · have hm1 : (bits .and .i64 u 511 == bits .and .i64 v 511) = true := by simpa using hm
            clear q hm
            go_enter Try.func8, Try.ntmps8
            go_wp2_with fail
            refine (sane_any w).mono ?_
            rintro e w1 ⟨rfl, hb1⟩
            have TA1 := H0.below hb1 (Nat.le_refl _)
            have TB1 := H3.below hb1
            have TC1 := H4.below hb1
            go_wp2_with fail
            refine (few_any _ _ _ _ _ _ _).mono ?_
            rintro e w' ⟨rfl, rfl⟩
            go_wp2_with fail
            refine (check_any a0 n0 c0 l0 w1 TA1).mono ?_
            rintro e w2 ⟨rfl, hb2⟩
            have TA2 := TA1.below hb2 (Nat.le_refl _)
            have TB2 := TB1.below hb2
            have TC2 := TC1.below hb2
            have hB2 := hb1.trans (hb2.mono hb1.size)
            go_wp2_with fail
            go_ret
            exact ⟨rfl, hB2⟩
          · have hm1 : (bits .and .i64 u 511 == bits .and .i64 v 511) = false := by simpa using hm
            rcases ex : Tally.addedSpec (bits .and .i64 u 511) l3 l0 with _ | x
            · have ex1 := Lib.hid ex
              rcases ey : Tally.addedSpec (bits .and .i64 v 511) l4 l0 with _ | y
              · have ey1 := Lib.hid ey
                clear q hm ex ey
                go_enter Try.func8, Try.ntmps8
                go_wp2_with fail
                refine (sane_any w).mono ?_
                rintro e w1 ⟨rfl, hb1⟩
                have TA1 := H0.below hb1 (Nat.le_refl _)
                have TB1 := H3.below hb1
                have TC1 := H4.below hb1
                go_wp2_with fail
                refine (few_any _ _ _ _ _ _ _).mono ?_
                rintro e w' ⟨rfl, rfl⟩
                go_wp2_with fail
                refine (check_any a0 n0 c0 l0 w1 TA1).mono ?_
                rintro e w2 ⟨rfl, hb2⟩
                have TA2 := TA1.below hb2 (Nat.le_refl _)
                have TB2 := TB1.below hb2
                have TC2 := TC1.below hb2
                have hB2 := hb1.trans (hb2.mono hb1.size)
                go_wp2_with fail
                refine (added_none a0 a3 n0 c0 n3 c3 l0 l3 _ w2 TA2 TB2 (mask_in _) hn.out h3.out hq.out ex1.out).mono ?_
                rintro e w3 ⟨rfl, hb3⟩
                have TA3 := TA2.below hb3 (Nat.le_refl _)
                have TB3 := TB2.below hb3
                have TC3 := TC2.below hb3
                have hB3 := hB2.trans (hb3.mono hB2.size)
                go_wp2_with fail
                refine (added_none a0 a4 n0 c0 n4 c4 l0 l4 _ w3 TA3 TC3 (mask_in _) hn.out h4.out hq.out ey1.out).mono ?_
                rintro e w4 ⟨rfl, hb4⟩
                have TA4 := TA3.below hb4 (Nat.le_refl _)
                have TB4 := TB3.below hb4
                have TC4 := TC3.below hb4
                have hB4 := hB3.trans (hb4.mono hB3.size)
                go_wp2_with fail
                go_ret
                exact ⟨rfl, hB4⟩
              · have ey1 := Lib.hid ey
                clear q hm ex ey
                go_enter Try.func8, Try.ntmps8
                go_wp2_with fail
                refine (sane_any w).mono ?_
                rintro e w1 ⟨rfl, hb1⟩
                have TA1 := H0.below hb1 (Nat.le_refl _)
                have TB1 := H3.below hb1
                have TC1 := H4.below hb1
                go_wp2_with fail
                refine (few_any _ _ _ _ _ _ _).mono ?_
                rintro e w' ⟨rfl, rfl⟩
                go_wp2_with fail
                refine (check_any a0 n0 c0 l0 w1 TA1).mono ?_
                rintro e w2 ⟨rfl, hb2⟩
                have TA2 := TA1.below hb2 (Nat.le_refl _)
                have TB2 := TB1.below hb2
                have TC2 := TC1.below hb2
                have hB2 := hb1.trans (hb2.mono hb1.size)
                go_wp2_with fail
                refine (added_none a0 a3 n0 c0 n3 c3 l0 l3 _ w2 TA2 TB2 (mask_in _) hn.out h3.out hq.out ex1.out).mono ?_
                rintro e w3 ⟨rfl, hb3⟩
                have TA3 := TA2.below hb3 (Nat.le_refl _)
                have TB3 := TB2.below hb3
                have TC3 := TC2.below hb3
                have hB3 := hB2.trans (hb3.mono hB2.size)
                go_wp2_with fail
                refine (added_some a0 a4 n0 c0 n4 c4 l0 l4 _ w3 TA3 TC3 (mask_in _) hn.out h4.out hq.out y ey1.out).mono ?_
                rintro e w4 ⟨Ya, Yc, rfl, TY, hb4⟩
                have TA4 := TA3.below hb4 (Nat.le_refl _)
                have TB4 := TB3.below hb4
                have TC4 := TC3.below hb4
                have hB4 := hB3.trans (hb4.mono hB3.size)
                go_wp2_with fail
                go_ret
                exact ⟨rfl, hB4⟩
            · have ex1 := Lib.hid ex
              rcases ey : Tally.addedSpec (bits .and .i64 v 511) l4 l0 with _ | y
              · have ey1 := Lib.hid ey
                clear q hm ex ey
                go_enter Try.func8, Try.ntmps8
                go_wp2_with fail
                refine (sane_any w).mono ?_
                rintro e w1 ⟨rfl, hb1⟩
                have TA1 := H0.below hb1 (Nat.le_refl _)
                have TB1 := H3.below hb1
                have TC1 := H4.below hb1
                go_wp2_with fail
                refine (few_any _ _ _ _ _ _ _).mono ?_
                rintro e w' ⟨rfl, rfl⟩
                go_wp2_with fail
                refine (check_any a0 n0 c0 l0 w1 TA1).mono ?_
                rintro e w2 ⟨rfl, hb2⟩
                have TA2 := TA1.below hb2 (Nat.le_refl _)
                have TB2 := TB1.below hb2
                have TC2 := TC1.below hb2
                have hB2 := hb1.trans (hb2.mono hb1.size)
                go_wp2_with fail
                refine (added_some a0 a3 n0 c0 n3 c3 l0 l3 _ w2 TA2 TB2 (mask_in _) hn.out h3.out hq.out x ex1.out).mono ?_
                rintro e w3 ⟨Xa, Xc, rfl, TX, hb3⟩
                have TA3 := TA2.below hb3 (Nat.le_refl _)
                have TB3 := TB2.below hb3
                have TC3 := TC2.below hb3
                have hB3 := hB2.trans (hb3.mono hB2.size)
                go_wp2_with fail
                refine (added_none a0 a4 n0 c0 n4 c4 l0 l4 _ w3 TA3 TC3 (mask_in _) hn.out h4.out hq.out ey1.out).mono ?_
                rintro e w4 ⟨rfl, hb4⟩
                have TA4 := TA3.below hb4 (Nat.le_refl _)
                have TB4 := TB3.below hb4
                have TC4 := TC3.below hb4
                have TX4 := TX.below hb4 (Nat.le_refl _)
                have hB4 := hB3.trans (hb4.mono hB3.size)
                go_wp2_with fail
                go_ret
                exact ⟨rfl, hB4⟩
              · have ey1 := Lib.hid ey
                obtain ⟨z, ez, ej⟩ := Tally.parted' q hm ex ey
                have ez1 := Lib.hid ez; have ej1 := Lib.hid ej
                have hxc := Lib.hid (Tally.addAll_chk l3 q ex)
                have hx0 := Tally.addAll_length l3 ex; have hy0 := Tally.addAll_length l4 ey
                rw [H0.len, H3.len] at hx0; rw [H0.len, H4.len] at hy0
                have hxl := Lib.hid (show x.length ≤ 100 from by have := h3.out; omega)
                have hxl2 := Lib.hid (show x.length ≤ 1000 from by have := h3.out; omega)
                have hyl2 := Lib.hid (show y.length ≤ 1000 from by have := h4.out; omega)
                have hs := Tally.same_self z
                clear q hm ex ey ez ej hx0 hy0
                go_enter Try.func8, Try.ntmps8
                go_wp2_with fail
                refine (sane_any w).mono ?_
                rintro e w1 ⟨rfl, hb1⟩
                have TA1 := H0.below hb1 (Nat.le_refl _)
                have TB1 := H3.below hb1
                have TC1 := H4.below hb1
                go_wp2_with fail
                refine (few_any _ _ _ _ _ _ _).mono ?_
                rintro e w' ⟨rfl, rfl⟩
                go_wp2_with fail
                refine (check_any a0 n0 c0 l0 w1 TA1).mono ?_
                rintro e w2 ⟨rfl, hb2⟩
                have TA2 := TA1.below hb2 (Nat.le_refl _)
                have TB2 := TB1.below hb2
                have TC2 := TC1.below hb2
                have hB2 := hb1.trans (hb2.mono hb1.size)
                go_wp2_with fail
                refine (added_some a0 a3 n0 c0 n3 c3 l0 l3 _ w2 TA2 TB2 (mask_in _) hn.out h3.out hq.out x ex1.out).mono ?_
                rintro e w3 ⟨Xa, Xc, rfl, TX, hb3⟩
                have TA3 := TA2.below hb3 (Nat.le_refl _)
                have TB3 := TB2.below hb3
                have TC3 := TC2.below hb3
                have hB3 := hB2.trans (hb3.mono hB2.size)
                go_wp2_with fail
                refine (added_some a0 a4 n0 c0 n4 c4 l0 l4 _ w3 TA3 TC3 (mask_in _) hn.out h4.out hq.out y ey1.out).mono ?_
                rintro e w4 ⟨Ya, Yc, rfl, TY, hb4⟩
                have TA4 := TA3.below hb4 (Nat.le_refl _)
                have TB4 := TB3.below hb4
                have TC4 := TC3.below hb4
                have TX4 := TX.below hb4 (Nat.le_refl _)
                have hB4 := hB3.trans (hb4.mono hB3.size)
                go_wp2_with fail
                refine (added_some Xa a4 x.length Xc n4 c4 x l4 _ w4 TX4 TC4 (mask_in _) hxl.out h4.out hxc.out z ez1.out).mono ?_
                rintro e w5 ⟨Za, Zc, rfl, TZ, hb5⟩
                have TA5 := TA4.below hb5 (Nat.le_refl _)
                have TB5 := TB4.below hb5
                have TC5 := TC4.below hb5
                have TX5 := TX4.below hb5 (Nat.le_refl _)
                have TY5 := TY.below hb5 (Nat.le_refl _)
                have hB5 := hB4.trans (hb5.mono hB4.size)
                go_wp2_with fail
                refine (join_t Xa Ya x.length Xc y.length Yc x y w5 TX5 TY5 hxl2.out hyl2.out z z.length 0 ej1.out rfl).mono ?_
                rintro e w6 ⟨Ja, Jc, rfl, TJ, hb6⟩
                have TA6 := TA5.below hb6 (Nat.le_refl _)
                have TB6 := TB5.below hb6
                have TC6 := TC5.below hb6
                have TX6 := TX5.below hb6 (Nat.le_refl _)
                have TY6 := TY5.below hb6 (Nat.le_refl _)
                have TZ6 := TZ.below hb6 (Nat.le_refl _)
                have hB6 := hB5.trans (hb6.mono hB5.size)
                go_wp2_with fail
                refine (same_any Ja Za z.length Jc z.length Zc z z w6 TJ TZ6).mono ?_
                rintro e w7 ⟨rfl, hb7⟩
                have TA7 := TA6.below hb7 (Nat.le_refl _)
                have TB7 := TB6.below hb7
                have TC7 := TC6.below hb7
                have TX7 := TX6.below hb7 (Nat.le_refl _)
                have TY7 := TY6.below hb7 (Nat.le_refl _)
                have TZ7 := TZ6.below hb7 (Nat.le_refl _)
                have TJ7 := TJ.below hb7 (Nat.le_refl _)
                have hB7 := hB6.trans (hb7.mono hB6.size)
                go_wp2_with fail
                go_ret
                exact ⟨rfl, hB7⟩
        · have kc := Tally.chkE_f (by simpa using q : Tally.chk l0 = false)
          go_enter Try.func8, Try.ntmps8
          go_wp2_with fail
          refine (sane_any w).mono ?_
          rintro e w1 ⟨rfl, hb1⟩
          have TA1 := H0.below hb1 (Nat.le_refl _)
          have TB1 := H3.below hb1
          have TC1 := H4.below hb1
          go_wp2_with fail
          refine (few_any _ _ _ _ _ _ _).mono ?_
          rintro e w' ⟨rfl, rfl⟩
          go_wp2_with fail
          refine (check_any a0 n0 c0 l0 w1 TA1).mono ?_
          rintro e w2 ⟨rfl, hb2⟩
          have TA2 := TA1.below hb2 (Nat.le_refl _)
          have TB2 := TB1.below hb2
          have TC2 := TC1.below hb2
          have hB2 := hb1.trans (hb2.mono hb1.size)
          go_wp2_with fail
          go_ret
          exact ⟨rfl, hB2⟩
      · have h4b : decide (8 < (n4 : Int)) = true := by simp; omega
        go_enter Try.func8, Try.ntmps8
        go_wp2_with fail
        refine (sane_any w).mono ?_
        rintro e w1 ⟨rfl, hb1⟩
        have TA1 := H0.below hb1 (Nat.le_refl _)
        have TB1 := H3.below hb1
        have TC1 := H4.below hb1
        go_wp2_with fail
        refine (few_any _ _ _ _ _ _ _).mono ?_
        rintro e w' ⟨rfl, rfl⟩
        go_wp2_with fail
        go_ret
        exact ⟨rfl, hb1⟩
    · have h3b : decide (8 < (n3 : Int)) = true := by simp; omega
      go_enter Try.func8, Try.ntmps8
      go_wp2_with fail
      refine (sane_any w).mono ?_
      rintro e w1 ⟨rfl, hb1⟩
      have TA1 := H0.below hb1 (Nat.le_refl _)
      have TB1 := H3.below hb1
      have TC1 := H4.below hb1
      go_wp2_with fail
      refine (few_any _ _ _ _ _ _ _).mono ?_
      rintro e w' ⟨rfl, rfl⟩
      go_wp2_with fail
      go_ret
      exact ⟨rfl, hb1⟩
  · have hf : (decide (n0 ≤ 60) && decide (0 ≤ 60)) = false := by simp [hn0]
    go_enter Try.func8, Try.ntmps8
    go_wp2_with fail
    refine (sane_any w).mono ?_
    rintro e w1 ⟨rfl, hb1⟩
    have TA1 := H0.below hb1 (Nat.le_refl _)
    have TB1 := H3.below hb1
    have TC1 := H4.below hb1
    go_wp2_with fail
    refine (few_any _ _ _ _ _ _ _).mono ?_
    rintro e w' ⟨rfl, rfl⟩
    go_wp2_with fail
    go_ret
    exact ⟨rfl, hb1⟩

end Go.Proofs.Ytlmngdcifappoaa
