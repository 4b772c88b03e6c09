/- the group's exported functions -/
import Derived.Test.YtnonfdcbnkdmcaaGreatDoorGrp
namespace Grp
def ok (a : Int) : Bool := decide (1 ≤ a ∧ a < 4611686018427377339 ∧ pw a.toNat Q = 1)
def chk (a : Int) : Int := if ok a then 0 else 40
theorem chk_t {a : Int} (h : ok a = true) : chk a = 0 := by simp [chk, h]
theorem chk_f {a : Int} (h : ok a = false) : chk a = 40 := by simp [chk, h]
def exp (a k : Int) : Int × Int := if ok a then (if 0 ≤ k ∧ k < 2305843009213688669 then ((pw a.toNat k.toNat : Nat), 0) else (0, 1)) else (0, 40)
def mul (a b : Int) : Int × Int := if ok a then (if ok b then ((a.toNat * b.toNat % P : Nat), 0) else (0, 40)) else (0, 40)
theorem ok_cast {a : Int} (h : ok a = true) : ∃ n : Nat, a = (n : Int) ∧ 1 ≤ n ∧ n < P ∧ pw n Q = 1 := by
 unfold ok at h
 have h' := of_decide_eq_true h
 obtain ⟨n, rfl⟩ := Int.eq_ofNat_of_zero_le (show 0 ≤ a by omega)
 refine ⟨n, rfl, by omega, by unfold P; omega, by simpa using h'.2.2⟩
end Grp
namespace Go.Proofs.YtnonfdcbnkdmcaaGreatDoor
open Go.RowKit Go.Shelf

def RetI (v : Int) (w : World) (e : Ending) (w' : World) : Prop := e = .returned (.int .i64 v) ∧ Below w.heap.size w w'
def RetII (v : Int × Int) (w : World) (e : Ending) (w' : World) : Prop := e = .returned (.tuple #[.int .i64 v.1, .int .i64 v.2]) ∧ Below w.heap.size w w'

set_option maxHeartbeats 1000000 in
theorem gcheck_any (a : Int) (w : World) : Calls Tryz.prog 156 #[.int .i64 a] w (RetI (Grp.chk a) w) := by
 by_cases h1 : a < 1
 · have hr : Hid (Grp.chk a = 40) := Grp.chk_f (by simp [Grp.ok]; omega)
   go_enter Tryz.func156, Tryz.ntmps156
   go_wp2_with fail
   go_ret
   exact ⟨by rw [hr.out]; rfl, Below.refl _ _⟩
 · by_cases h2 : 4611686018427377339 ≤ a
   · have hr : Hid (Grp.chk a = 40) := Grp.chk_f (by simp [Grp.ok]; omega)
     have h1' : decide (a < 1) = false := by simpa using h1
     go_enter Tryz.func156, Tryz.ntmps156
     go_wp2_with fail
     go_ret
     exact ⟨by rw [hr.out]; rfl, Below.refl _ _⟩
   · obtain ⟨n, rfl⟩ := Int.eq_ofNat_of_zero_le (show 0 ≤ a by omega)
     have h1' : decide ((n : Int) < 1) = false := by simpa using h1
     have h2' : decide ((4611686018427377339 : Int) ≤ (n : Int)) = false := by simpa using h2
     have hp := power_any n Grp.Q w (by unfold Grp.P; omega) (by decide)
     obtain ⟨v, hv⟩ : ∃ v, Hid (Grp.pw n Grp.Q = v) := ⟨_, rfl⟩
     rw [hv.out] at hp
     have hp' : Hid (Calls Tryz.prog 185 #[.int .u64 (n : Int), .int .u64 2305843009213688669] w (RetB (v : Int) w)) := Lib.hid hp
     have hn : (n : Int) ≤ 4611686018427377338 := by omega
     have hn0 : (0 : Int) ≤ (n : Int) := by omega
     by_cases e : v = 1
     · have hr : Hid (Grp.chk (n : Int) = 0) := Grp.chk_t (by unfold Grp.ok; rw [Int.toNat_natCast, hv.out]; simp [e]; omega)
       have e' : ((v : Int) != 1) = false := by simp [e]
       clear hp h1 h2 e
       go_enter Tryz.func156, Tryz.ntmps156
       go_wp2_with fail
       refine (Hid.out hp').mono ?_
       rintro e w' ⟨rfl, hb⟩
       go_wp2_with fail
       go_ret
       exact ⟨by rw [hr.out]; rfl, hb⟩
     · have hr : Hid (Grp.chk (n : Int) = 40) := Grp.chk_f (by unfold Grp.ok; rw [Int.toNat_natCast, hv.out]; simp [e])
       have e' : ((v : Int) != 1) = true := by simp; omega
       clear hp h1 h2 e
       go_enter Tryz.func156, Tryz.ntmps156
       go_wp2_with fail
       refine (Hid.out hp').mono ?_
       rintro e w' ⟨rfl, hb⟩
       go_wp2_with fail
       go_ret
       exact ⟨by rw [hr.out]; rfl, hb⟩

set_option maxHeartbeats 1000000 in
theorem gexp_any (a k : Int) (w : World) : Calls Tryz.prog 158 #[.int .i64 a, .int .i64 k] w (RetII (Grp.exp a k) w) := by
 by_cases ha : Grp.ok a = true
 · have hc := Grp.chk_t ha
   by_cases hk : 0 ≤ k ∧ k < 2305843009213688669
   · obtain ⟨m, rfl⟩ := Int.eq_ofNat_of_zero_le hk.1
     obtain ⟨n, rfl, n1, n2, _⟩ := Grp.ok_cast ha
     obtain ⟨v, hv⟩ : ∃ v, Hid (Grp.pw n m = v) := ⟨_, rfl⟩
     have hr : Hid (Grp.exp (n : Int) (m : Int) = ((v : Int), 0)) := by show _ = _; simp only [Grp.exp, ha, if_true, if_pos hk, Int.toNat_natCast, hv.out]
     have hp := fun W => power_any n m W n2 (by omega)
     rw [hv.out] at hp
     have hp' := Lib.hid hp
     have hvl : v < 4611686018427377339 := by rw [← hv.out]; exact Grp.pw_lt n m
     have hk1 : decide ((m : Int) < 0) = false := by simp
     have hk2 : decide ((2305843009213688669 : Int) ≤ (m : Int)) = false := by simp; omega
     have hm1 : (m : Int) ≤ 2305843009213688668 := by omega
     have hn1 : (n : Int) ≤ 4611686018427377338 := by unfold Grp.P at n2; omega
     have hn0 : (0 : Int) ≤ (n : Int) := by omega
     have hm0 : (0 : Int) ≤ (m : Int) := by omega
     have hv0 : (0 : Int) ≤ (v : Int) := by omega
     have hv1 : (v : Int) ≤ 4611686018427377338 := by omega
     clear hp ha hk
     go_enter Tryz.func158, Tryz.ntmps158
     go_wp2_with fail
     refine (gcheck_any _ _).mono ?_
     rintro e w1 ⟨rfl, hb1⟩
     go_wp2_with fail
     refine (Hid.out hp' _).mono ?_
     rintro e w2 ⟨rfl, hb2⟩
     go_wp2_with fail
     go_ret2
     exact ⟨by rw [hr.out]; rfl, hb1.trans (hb2.mono hb1.size)⟩
   · have hr : Hid (Grp.exp a k = (0, 1)) := by show _ = _; simp only [Grp.exp, ha, if_true, if_neg hk]
     by_cases hk1 : k < 0
     · clear ha hk
       go_enter Tryz.func158, Tryz.ntmps158
       go_wp2_with fail
       refine (gcheck_any _ _).mono ?_
       rintro e w1 ⟨rfl, hb1⟩
       go_wp2_with fail
       go_ret2
       exact ⟨by rw [hr.out]; rfl, hb1⟩
     · have hk1' : decide (k < 0) = false := by simpa using hk1
       have hk2 : decide ((2305843009213688669 : Int) ≤ k) = true := by simp; omega
       clear ha hk hk1
       go_enter Tryz.func158, Tryz.ntmps158
       go_wp2_with fail
       refine (gcheck_any _ _).mono ?_
       rintro e w1 ⟨rfl, hb1⟩
       go_wp2_with fail
       go_ret2
       exact ⟨by rw [hr.out]; rfl, hb1⟩
 · have ha' : Grp.ok a = false := by simpa using ha
   have hc := Grp.chk_f ha'
   have hr : Hid (Grp.exp a k = (0, 40)) := by show _ = _; simp [Grp.exp, ha']
   clear ha ha'
   go_enter Tryz.func158, Tryz.ntmps158
   go_wp2_with fail
   refine (gcheck_any _ _).mono ?_
   rintro e w1 ⟨rfl, hb1⟩
   go_wp2_with fail
   go_ret2
   exact ⟨by rw [hr.out]; rfl, hb1⟩

set_option maxHeartbeats 1000000 in
theorem gbase_any (k : Int) (w : World) : Calls Tryz.prog 128 #[.int .i64 k] w (RetII (Grp.exp 4 k) w) := by
 obtain ⟨r, hr⟩ : ∃ r, Hid (Grp.exp 4 k = r) := ⟨_, rfl⟩
 have h := fun W => gexp_any 4 k W
 rw [hr.out] at h ⊢
 have h' := Lib.hid h
 clear h
 go_enter Tryz.func128, Tryz.ntmps128
 go_wp2_with fail
 refine (Hid.out h' _).mono ?_
 rintro e w1 ⟨rfl, hb1⟩
 go_wp2_with fail
 go_ret2
 exact ⟨rfl, hb1⟩

theorem chk_cases (a : Int) : Grp.chk a = 0 ∨ Grp.chk a = 40 := by unfold Grp.chk; split <;> simp
theorem ok_of_chk {a : Int} (h : Grp.chk a = 0) : Grp.ok a = true := by
 unfold Grp.chk at h
 split at h
 · assumption
 · omega
theorem times_int (a b : Int) (w : World) (ha : 0 ≤ a) (ha' : a < 4611686018427377339) (hb : 0 ≤ b) (hb' : b < 4611686018427377339) :
 Calls Tryz.prog 186 #[.int .u64 a, .int .u64 b] w (RetU (a.toNat * b.toNat % Grp.P) w) := by
 obtain ⟨n, rfl⟩ := Int.eq_ofNat_of_zero_le ha
 obtain ⟨m, rfl⟩ := Int.eq_ofNat_of_zero_le hb
 exact times_any n m w (by unfold Grp.P; omega) (by unfold Grp.P; omega)

set_option maxHeartbeats 1000000 in
set_option maxRecDepth 100000 in
theorem gmul_any (a b : Int) (w : World) : Calls Tryz.prog 159 #[.int .i64 a, .int .i64 b] w (RetII (Grp.mul a b) w) := by
 have i0 : ∀ W, (Instr.index 208 (.agg #[.int .i64 a, .int .i64 b]) (.int .i64 0)).run Tryz.prog W = .ok (.int .i64 a) W := fun _ => by kernel_rfl
 have i1 : ∀ W, (Instr.index 208 (.agg #[.int .i64 a, .int .i64 b]) (.int .i64 1)).run Tryz.prog W = .ok (.int .i64 b) W := fun _ => by kernel_rfl
 go_enter Tryz.func159, Tryz.ntmps159
 go_wp2_with fail
 go_loopw [12] (fun i wr => ∃ k : Nat, k ≤ 2 ∧ i = .int .i64 k ∧ (1 ≤ k → Grp.chk a = 0) ∧ (2 ≤ k → Grp.chk b = 0) ∧ Below w.heap.size w wr) (fun i _ => 2 - (intOf i).toNat)
 case atStart => exact ⟨0, by omega, rfl, fun h => absurd h (by omega), fun h => absurd h (by omega), Below.refl _ _⟩
 case round =>
  obtain ⟨k, hk, rfl, h1, h2, hB⟩ := hrel
  have hk3 : k = 0 ∨ k = 1 ∨ k = 2 := by omega
  rcases hk3 with rfl | rfl | rfl
  · clear h1 h2 hk
    rcases chk_cases a with ea | ea
    · have ea' := Lib.hid ea
      clear ea
      go_wp2_with fail
      refine (gcheck_any a _).mono ?_
      rintro e w1 ⟨rfl, hb1⟩
      rw [ea'.out]
      go_wp2_with fail
      go_roundw
      case rel => exact ⟨1, by omega, by go_num, fun _ => ea'.out, fun h => absurd h (by omega), hB.trans (hb1.mono hB.size)⟩
      case measure => simp [intOf]
    · have hr : Hid (Grp.mul a b = (0, 40)) := by show _ = _; unfold Grp.chk at ea; unfold Grp.mul; split at ea <;> simp_all
      have ea' := Lib.hid ea
      clear ea
      go_wp2_with fail
      refine (gcheck_any a _).mono ?_
      rintro e w1 ⟨rfl, hb1⟩
      rw [ea'.out]
      go_wp2_with fail
      go_ret2
      exact ⟨by rw [hr.out]; rfl, hB.trans (hb1.mono hB.size)⟩
  · have h1' := Lib.hid (h1 (by omega))
    clear h1 h2 hk
    rcases chk_cases b with ea | ea
    · have ea' := Lib.hid ea
      clear ea
      go_wp2_with fail
      refine (gcheck_any b _).mono ?_
      rintro e w1 ⟨rfl, hb1⟩
      rw [ea'.out]
      go_wp2_with fail
      go_roundw
      case rel => exact ⟨2, by omega, by go_num, fun _ => h1'.out, fun _ => ea'.out, hB.trans (hb1.mono hB.size)⟩
      case measure => simp [intOf]
    · have hr : Hid (Grp.mul a b = (0, 40)) := by show _ = _; have := ok_of_chk h1'.out; unfold Grp.chk at ea; unfold Grp.mul; split at ea <;> simp_all
      have ea' := Lib.hid ea
      clear ea
      go_wp2_with fail
      refine (gcheck_any b _).mono ?_
      rintro e w1 ⟨rfl, hb1⟩
      rw [ea'.out]
      go_wp2_with fail
      go_ret2
      exact ⟨by rw [hr.out]; rfl, hB.trans (hb1.mono hB.size)⟩
  · have oa := ok_of_chk (h1 (by omega))
    have ob := ok_of_chk (h2 (by omega))
    have hr : Hid (Grp.mul a b = (((a.toNat * b.toNat % Grp.P : Nat) : Int), 0)) := by show _ = _; simp [Grp.mul, oa, ob]
    obtain ⟨v, hv⟩ : ∃ v, Hid (a.toNat * b.toNat % Grp.P = v) := ⟨_, rfl⟩
    have hvl : v < 4611686018427377339 := by rw [← hv.out]; exact Nat.mod_lt _ Grp.P_pos
    obtain ⟨n, an, n1, n2, _⟩ := Grp.ok_cast oa
    obtain ⟨m, bm, m1, m2, _⟩ := Grp.ok_cast ob
    unfold Grp.P at n2 m2
    have a1 : 0 ≤ a := by omega
    have a2 : a < 4611686018427377339 := by omega
    have b1 : 0 ≤ b := by omega
    have b2 : b < 4611686018427377339 := by omega
    have v0 : (0 : Int) ≤ (v : Int) := by omega
    have v1 : (v : Int) ≤ 4611686018427377338 := by omega
    have ht := times_int a b wr a1 a2 b1 b2
    rw [hv.out] at hr ht
    have ht' := Lib.hid ht
    clear ht h1 h2 hk an bm oa ob
    go_wp2_with fail
    refine (Hid.out ht').mono ?_
    rintro e w1 ⟨rfl, nn, rfl⟩
    go_wp2_with fail
    go_ret2
    exact ⟨by rw [hr.out]; rfl, hB.trans (below_drewN _ _ _)⟩
end Go.Proofs.YtnonfdcbnkdmcaaGreatDoor
