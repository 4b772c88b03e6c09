/- the group's exported functions -/
import Derived.Test.YtnonfdcbnkdmcaaGreatDoorGrp
namespace Grp
def ok (a : Int) : Bool := decide (1 ≤ a ∧ a < 4611686018427377339 ∧ pw a.toNat Q = 1)
def chk (a : Int) : Int := if ok a then 0 else 40
theorem chk_t {a : Int} (h : ok a = true) : chk a = 0 := by simp [chk, h]
theorem chk_f {a : Int} (h : ok a = false) : chk a = 40 := by simp [chk, h]
def exp (a k : Int) : Int × Int := if ok a then (if 0 ≤ k ∧ k < 2305843009213688669 then ((pw a.toNat k.toNat : Nat), 0) else (0, 1)) else (0, 40)
def mul (a b : Int) : Int × Int := if ok a then (if ok b then ((a.toNat * b.toNat % P : Nat), 0) else (0, 40)) else (0, 40)
theorem ok_cast {a : Int} (h : ok a = true) : ∃ n : Nat, a = (n : Int) ∧ 1 ≤ n ∧ n < P ∧ pw n Q = 1 := by
 unfold ok at h
 have h' := of_decide_eq_true h
 obtain ⟨n, rfl⟩ := Int.eq_ofNat_of_zero_le (show 0 ≤ a by omega)
 refine ⟨n, rfl, by omega, by unfold P; omega, by simpa using h'.2.2⟩
end Grp
namespace Go.Proofs.YtnonfdcbnkdmcaaGreatDoor
open Go.RowKit Go.Shelf

def RetI (v : Int) (w : World) (e : Ending) (w' : World) : Prop := e = .returned (.int .i64 v) ∧ Below w.heap.size w w'
def RetII (v : Int × Int) (w : World) (e : Ending) (w' : World) : Prop := e = .returned (.tuple #[.int .i64 v.1, .int .i64 v.2]) ∧ Below w.heap.size w w'

set_option maxHeartbeats 1000000 in
theorem gcheck_any (a : Int) (w : World) : Calls Tryz.prog 156 #[.int .i64 a] w (RetI (Grp.chk a) w) := by
 by_cases h1 : a < 1
 · have hr : Hid (Grp.chk a = 40) := Grp.chk_f (by simp [Grp.ok]; omega)
   go_enter Tryz.func156, Tryz.ntmps156
   go_wp2_with fail
   go_ret
   exact ⟨by rw [hr.out]; rfl, Below.refl _ _⟩
 · by_cases h2 : 4611686018427377339 ≤ a
   · have hr : Hid (Grp.chk a = 40) := Grp.chk_f (by simp [Grp.ok]; omega)
     have h1' : decide (a < 1) = false := by simpa using h1
     go_enter Tryz.func156, Tryz.ntmps156
     go_wp2_with fail
     go_ret
     exact ⟨by rw [hr.out]; rfl, Below.refl _ _⟩
   · obtain ⟨n, rfl⟩ := Int.eq_ofNat_of_zero_le (show 0 ≤ a by omega)
     have h1' : decide ((n : Int) < 1) = false := by simpa using h1
     have h2' : decide ((4611686018427377339 : Int) ≤ (n : Int)) = false := by simpa using h2
     have hp := power_any n Grp.Q w (by unfold Grp.P; omega) (by decide)
     obtain ⟨v, hv⟩ : ∃ v, Hid (Grp.pw n Grp.Q = v) := ⟨_, rfl⟩
     rw [hv.out] at hp
     have hp' : Hid (Calls Tryz.prog 185 #[.int .u64 (n : Int), .int .u64 2305843009213688669] w (RetB (v : Int) w)) := Lib.hid hp
     have hn : (n : Int) ≤ 4611686018427377338 := by omega
     have hn0 : (0 : Int) ≤ (n : Int) := by omega
     by_cases e : v = 1
     · have hr : Hid (Grp.chk (n : Int) = 0) := Grp.chk_t (by unfold Grp.ok; rw [Int.toNat_natCast, hv.out]; simp [e]; omega)
       have e' : ((v : Int) != 1) = false := by simp [e]
       clear hp h1 h2 e
       go_enter Tryz.func156, Tryz.ntmps156
       go_wp2_with fail
       refine (Hid.out hp').mono ?_
       rintro e w' ⟨rfl, hb⟩
       go_wp2_with fail
       go_ret
       exact ⟨by rw [hr.out]; rfl, hb⟩
     · have hr : Hid (Grp.chk (n : Int) = 40) := Grp.chk_f (by unfold Grp.ok; rw [Int.toNat_natCast, hv.out]; simp [e])
       have e' : ((v : Int) != 1) = true := by simp; omega
       clear hp h1 h2 e
       go_enter Tryz.func156, Tryz.ntmps156
       go_wp2_with fail
       refine (Hid.out hp').mono ?_
       rintro e w' ⟨rfl, hb⟩
       go_wp2_with fail
       go_ret
       exact ⟨by rw [hr.out]; rfl, hb⟩

set_option maxHeartbeats 1000000 in
theorem gexp_any (a k : Int) (w : World) : Calls Tryz.prog 158 #[.int .i64 a, .int .i64 k] w (RetII (Grp.exp a k) w) := by
 by_cases ha : Grp.ok a = true
 · have hc := Grp.chk_t ha
   by_cases hk : 0 ≤ k ∧ k < 2305843009213688669
   · obtain ⟨m, rfl⟩ := Int.eq_ofNat_of_zero_le hk.1
     obtain ⟨n, rfl, n1, n2, _⟩ := Grp.ok_cast ha
     obtain ⟨v, hv⟩ : ∃ v, Hid (Grp.pw n m = v) := ⟨_, rfl⟩
     have hr : Hid (Grp.exp (n : Int) (m : Int) = ((v : Int), 0)) := by show _ = _; simp only [Grp.exp, ha, if_true, if_pos hk, Int.toNat_natCast, hv.out]
     have hp := fun W => power_any n m W n2 (by omega)
     rw [hv.out] at hp
     have hp' := Lib.hid hp
     have hvl : v < 4611686018427377339 := by rw [← hv.out]; exact Grp.pw_lt n m
     have hk1 : decide ((m : Int) < 0) = false := by simp
     have hk2 : decide ((2305843009213688669 : Int) ≤ (m : Int)) = false := by simp; omega
     have hm1 : (m : Int) ≤ 2305843009213688668 := by omega
     have hn1 : (n : Int) ≤ 4611686018427377338 := by unfold Grp.P at n2; omega
     have hn0 : (0 : Int) ≤ (n : Int) := by omega
     have hm0 : (0 : Int) ≤ (m : Int) := by omega
     have hv0 : (0 : Int) ≤ (v : Int) := by omega
     have hv1 : (v : Int) ≤ 4611686018427377338 := by omega
     clear hp ha hk
     go_enter Tryz.func158, Tryz.ntmps158
     go_wp2_with fail
     refine (gcheck_any _ _).mono ?_
     rintro e w1 ⟨rfl, hb1⟩
     go_wp2_with fail
     refine (Hid.out hp' _).mono ?_
     rintro e w2 ⟨rfl, hb2⟩
     go_wp2_with fail
     go_ret2
     exact ⟨by rw [hr.out]; rfl, hb1.trans (hb2.mono hb1.size)⟩
   · have hr : Hid (Grp.exp a k = (0, 1)) := by show _ = _; simp only [Grp.exp, ha, if_true, if_neg hk]
     by_cases hk1 : k < 0
     · clear ha hk
       go_enter Tryz.func158, Tryz.ntmps158
       go_wp2_with fail
       refine (gcheck_any _ _).mono ?_
       rintro e w1 ⟨rfl, hb1⟩
       go_wp2_with fail
       go_ret2
       exact ⟨by rw [hr.out]; rfl, hb1⟩
     · have hk1' : decide (k < 0) = false := by simpa using hk1
       have hk2 : decide ((2305843009213688669 : Int) ≤ k) = true := by simp; omega
       clear ha hk hk1
       go_enter Tryz.func158, Tryz.ntmps158
       go_wp2_with fail
       refine (gcheck_any _ _).mono ?_
       rintro e w1 ⟨rfl, hb1⟩
       go_wp2_with fail
       go_ret2
       exact ⟨by rw [hr.out]; rfl, hb1⟩
 · have ha' : Grp.ok a = false := by simpa using ha
   have hc := Grp.chk_f ha'
   have hr : Hid (Grp.exp a k = (0, 40)) := by show _ = _; simp [Grp.exp, ha']
   clear ha ha'
   go_enter Tryz.func158, Tryz.ntmps158
   go_wp2_with fail
   refine (gcheck_any _ _).mono ?_
   rintro e w1 ⟨rfl, hb1⟩
   go_wp2_with fail
   go_ret2
   exact ⟨by rw [hr.out]; rfl, hb1⟩

set_option maxHeartbeats 1000000 in
theorem gbase_any (k : Int) (w : World) : Calls Tryz.prog 128 #[.int .i64 k] w (RetII (Grp.exp 4 k) w) := by
 obtain ⟨r, hr⟩ : ∃ r, Hid (Grp.exp 4 k = r) := ⟨_, rfl⟩
 have h := fun W => gexp_any 4 k W
 rw [hr.out] at h ⊢
 have h' := Lib.hid h
 clear h
 go_enter Tryz.func128, Tryz.ntmps128
 go_wp2_with fail
 refine (Hid.out h' _).mono ?_
 rintro e w1 ⟨rfl, hb1⟩
 go_wp2_with fail
 go_ret2
 exact ⟨rfl, hb1⟩

end Go.Proofs.YtnonfdcbnkdmcaaGreatDoor

