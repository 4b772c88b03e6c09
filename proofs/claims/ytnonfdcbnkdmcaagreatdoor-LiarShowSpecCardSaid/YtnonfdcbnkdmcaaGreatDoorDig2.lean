/- the hash: put -/
import Derived.Test.YtnonfdcbnkdmcaaGreatDoorDig
namespace Go.Mem
theorem set_mid (pre post : List Value) (a b : List Nat) (y x : Nat) : (pre ++ bv (a ++ [y] ++ b) ++ post).set (pre.length + a.length) (.int .u8 (x : Int)) = pre ++ bv (a ++ [x] ++ b) ++ post := by
 rw [List.append_assoc, List.set_append_right _ _ (by omega), Nat.add_sub_cancel_left, List.set_append_left _ _ (by simp [bv_length])]
 rw [bv_set]
 rw [List.append_assoc a, List.set_append_right _ _ (by omega), Nat.sub_self]
 simp [List.append_assoc]

theorem put_step (pre post : List Value) (mid bs : List Nat) (m j : Nat) (hm : mid.length = m) (hb : bs.length = m) (hj : j < m) (x : Nat) (hx : bs[j]? = some x) :
 (pre ++ bv (mid.take (j + 1) ++ bs.drop (j + 1)) ++ post).set (pre.length + j) (.int .u8 (x : Int)) = pre ++ bv (mid.take j ++ bs.drop j) ++ post := by
 have h1 : mid.take (j + 1) = mid.take j ++ [mid[j]'(by omega)] := List.take_succ_eq_append_getElem (by omega)
 have h2 : bs.drop j = x :: bs.drop (j + 1) := by
  rw [List.drop_eq_getElem_cons (by omega)]
  congr 1
  rw [List.getElem?_eq_getElem (by omega)] at hx
  exact Option.some.inj hx
 have h3 := set_mid pre post (mid.take j) (bs.drop (j + 1)) (mid[j]'(by omega)) x
 rw [List.length_take, Nat.min_eq_left (by omega)] at h3
 rw [h1, h2, h3]
 simp [List.append_assoc]
end Go.Mem
namespace Go.Proofs.YtnonfdcbnkdmcaaGreatDoor
open Go.RowKit Go.Mem

def PutPost (g : Nat) (t : TypeId) (cs : List Value) (w : World) (e : Ending) (w' : World) : Prop := e = .returned (.tuple #[]) ∧ Blk w' g t cs ∧ w.grownBy w' (some g)

set_option maxHeartbeats 2000000 in
theorem put_any (g m c : Nat) (t : TypeId) (pre post : List Value) (mid : List Nat) (n : Nat) (w : World) (H : Blk w g t (pre ++ bv mid ++ post)) (hm : mid.length = m) (hm8 : m ≤ 8) (hmc : m ≤ c) (_hcx : c ≤ 9223372036854775807) (hn : n < 18446744073709551616) :
 Calls Tryz.prog 189 #[.slice (some ⟨g, pre.length, none⟩) m c, .int .u64 (n : Int)] w (PutPost g t (pre ++ bv (Sha.be m n) ++ post) w) := by
 have n0 : (0 : Int) ≤ (n : Int) := by omega
 have n1 : (n : Int) ≤ 18446744073709551615 := by omega
 have m8 : (m : Int) ≤ 8 := by omega
 have hbl := Lib.hid (Sha.be_length m n)
 have hm' := Lib.hid hm
 clear hm
 obtain ⟨o, ho⟩ : ∃ o, Hid (pre.length = o) := ⟨_, rfl⟩
 rw [ho.out]
 go_enter Tryz.func189, Tryz.ntmps189
 go_wp2_with fail
 go_loopw [7] (fun i wr => ∃ k : Nat, k ≤ m ∧ i = .int .i64 k ∧ Blk wr g t (pre ++ bv (mid.take (m - k) ++ (Sha.be m n).drop (m - k)) ++ post) ∧ w.grownBy wr (some g)) (fun i _ => m - (intOf i).toNat)
 case atStart => exact ⟨0, by omega, rfl, by rw [Nat.sub_zero, List.take_of_length_le (by rw [hm'.out]; omega), List.drop_eq_nil_of_le (by rw [hbl.out]; omega), List.append_nil]; exact H, World.grownBy.refl w _⟩
 case round =>
  obtain ⟨k, hk, rfl, hB, hG⟩ := hrel
  by_cases hlt : k < m
  · obtain ⟨j, hj⟩ : ∃ j, Hid (m - 1 - k = j) := ⟨_, rfl⟩
    have hj0 := hj.out
    have hjm : j < m := by omega
    have e1 : (m : Int) - 1 - (k : Int) = (j : Int) := by omega
    have hx : (Sha.be m n)[j]? = some (n / 2 ^ (8 * k) % 256) := by
     rw [List.getElem?_eq_getElem (by rw [hbl.out]; omega)]
     simp only [Sha.be, List.getElem_map, List.getElem_range]
     rw [show m - 1 - j = k by omega, show (256 : Nat) = 2 ^ 8 by rfl, ← Nat.pow_mul]
    rw [show m - k = j + 1 by omega] at hB
    have hc0 := hB.at_ (i := o + j) (x := .int .u8 ((mid[j]'(by have := hm'.out; omega) : Nat) : Int)) (by
     rw [List.append_assoc, List.getElem?_append_right (by rw [ho.out]; omega), ho.out, Nat.add_sub_cancel_left, List.getElem?_append_left (by rw [bv_length, List.length_append, List.length_take, List.length_drop, hm'.out, hbl.out]; omega)]
     apply bv_get
     rw [List.getElem?_append_left (by rw [List.length_take, hm'.out]; omega), List.getElem?_take_of_lt (by omega), List.getElem?_eq_getElem])
    have hf0 := hB.frozen (o + j)
    have hB' := Lib.hid hB
    have hst := Lib.hid (put_step pre post mid (Sha.be m n) m j hm'.out hbl.out hjm _ hx)
    have k8 : 8 * (k : Int) < 64 := by omega
    have k80 : 0 ≤ 8 * (k : Int) := by omega
    have j0 : (0 : Int) ≤ (j : Int) := by omega
    have jm : (j : Int) < (m : Int) := by omega
    have hcast : Hid (((n : Int) / 2 ^ (8 * k) % 256) = ((n / 2 ^ (8 * k) % 256 : Nat) : Int)) := by show _ = _; rw [Int.natCast_emod, Int.natCast_ediv, Int.natCast_pow]; rfl
    clear hB hx hj0
    go_wp2_with fail
    go_roundw
    case rel =>
     refine ⟨k + 1, by omega, by go_num, ?_, grown_set hG (.inl rfl) _⟩
     rw [hcast.out, show m - (k + 1) = j by have := hj.out; omega, ← hst.out, ho.out]
     exact hB'.out.set _ _
    case measure => simp [intOf]; omega
  · obtain rfl : k = m := by omega
    rw [Nat.sub_self, List.take_zero, List.drop_zero, List.nil_append] at hB
    go_wp2_with fail
    go_end0
    exact ⟨rfl, hB, hG⟩
end Go.Proofs.YtnonfdcbnkdmcaaGreatDoor
