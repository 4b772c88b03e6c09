/- the hash: small functions -/
import Derived.Test.YtnonfdcbnkdmcaaGreatDoorChecked
import Derived.Test.YtnonfdcbnkdmcaaGreatDoorMem
import Derived.Test.YtnonfdcbnkdmcaaGreatDoorShaPlain
import Derived.WalkKit
import Derived.WalkLawsBesides
import Derived.WalkSpells
import Derived.Lib.Hide
import Derived.Laws.Bits64b
import Derived.Laws.BitsAllLaws
import Derived.Deep.QuietTactic
import Derived.BigQuiet
namespace Go.Proofs.YtnonfdcbnkdmcaaGreatDoor
open Go.RowKit Go.Mem

set_option maxHeartbeats 1000000 in
theorem rot_any (x s r : Nat) (k : Int) (w : World) (hx : x < 4294967296) (hs0 : 0 < s) (hsr : s + r = 32) (hr0 : 0 < r) (hk : bits .and .u64 (IntKind.u64.wrap k) 31 = (s : Int)) :
 Calls Tryz.prog 212 #[.int .u32 (x : Int), .int .i64 k] w fun e w' => e = .returned (.int .u32 (Sha.ror x r : Nat)) ∧ w = w' := by
 have e1 : (32 : Int) - (s : Int) = (r : Int) := by omega
 have s0 : (0 : Int) ≤ (s : Int) := by omega
 have s1 : (s : Int) < 32 := by omega
 have r0 : (0 : Int) ≤ (r : Int) := by omega
 have r1 : (r : Int) < 32 := by omega
 have x0 : (0 : Int) ≤ (x : Int) := by omega
 have x1 : (x : Int) ≤ 4294967295 := by omega
 go_enter Tryz.func212, Tryz.ntmps212
 go_wp2_with fail
 go_ret
 refine ⟨congrArg Ending.returned (congrArg (Value.int IntKind.u32) ?_), rfl⟩
 have e1 : ((x : Int) * 2 ^ s % 4294967296) = ((x * 2 ^ s % 4294967296 : Nat) : Int) := by rw [Int.natCast_emod, Int.natCast_mul, Int.natCast_pow]; rfl
 have e2 : ((x : Int) / 2 ^ r) = ((x / 2 ^ r : Nat) : Int) := by rw [Int.natCast_ediv, Int.natCast_pow]; rfl
 rw [e1, e2, u32_or_nat _ _ (Nat.mod_lt _ (by decide)) (Nat.lt_of_le_of_lt (Nat.div_le_self _ _) hx)]
 unfold Sha.ror
 rw [show 32 - r = s by omega, Nat.shiftLeft_eq, Nat.shiftRight_eq_div_pow]

def valB (l : List Nat) : Nat := l.foldl (fun n c => n * 256 + c) 0
theorem valB_snoc (l : List Nat) (c : Nat) : valB (l ++ [c]) = valB l * 256 + c := by simp [valB]
theorem valB_lt (l : List Nat) (h : ∀ x ∈ l, x < 256) : valB l < 256 ^ l.length := by
 have : ∀ (l : List Nat) (n m : Nat), n < 256 ^ m → (∀ x ∈ l, x < 256) → l.foldl (fun n c => n * 256 + c) n < 256 ^ (m + l.length) := by
  intro l
  induction l with
  | nil => intro n m hn _; exact hn
  | cons c r ih =>
   intro n m hn hl
   have hc := hl c (by simp)
   have := ih (n * 256 + c) (m + 1) (by rw [Nat.pow_succ]; omega) (fun x hx => hl x (by simp [hx]))
   rw [List.length_cons, show m + (r.length + 1) = m + 1 + r.length by omega]; exact this
 simpa [valB] using this l 0 0 (by decide) h


set_option maxHeartbeats 1000000 in
theorem rotA (x : Nat) (w : World) (hx : x < 4294967296) :
 Calls Tryz.prog 213 #[.int .u32 (x : Int), .int .i64 6, .int .i64 11, .int .i64 25] w fun e w' => e = .returned (.int .u32 (Sha.rot3 x 6 11 25 : Nat)) ∧ w = w' := by
 have ra := Lib.hid (rot_any x 26 6 (-6) w hx (by omega) (by omega) (by omega) (by decide +kernel))
 have rb := Lib.hid (rot_any x 21 11 (-11) w hx (by omega) (by omega) (by omega) (by decide +kernel))
 have rc := Lib.hid (rot_any x 7 25 (-25) w hx (by omega) (by omega) (by omega) (by decide +kernel))
 have la := Sha.ror_lt x 6 hx
 have lb := Sha.ror_lt x 11 hx
 have lc := Sha.ror_lt x 25 hx
 obtain ⟨r, hr⟩ : ∃ r, Hid (Sha.rot3 x 6 11 25 = r) := ⟨_, rfl⟩
 have hr' := hr.out
 unfold Sha.rot3 at hr'
 obtain ⟨va, ea⟩ : ∃ v, Sha.ror x 6 = v := ⟨_, rfl⟩
 obtain ⟨vb, eb⟩ : ∃ v, Sha.ror x 11 = v := ⟨_, rfl⟩
 obtain ⟨vc, ec⟩ : ∃ v, Sha.ror x 25 = v := ⟨_, rfl⟩
 rw [ea] at ra la hr'
 rw [eb] at rb lb hr'
 rw [ec] at rc lc hr'
 obtain ⟨vm, em⟩ : ∃ v, va ^^^ vb = v := ⟨_, rfl⟩
 have x1 := u32_xor_nat va vb la lb
 have lm := Sha.xor_lt la lb
 rw [em] at x1 lm hr'
 have x2 := u32_xor_nat vm vc lm lc
 rw [hr'] at x2
 rw [hr.out]
 clear ea eb ec em hr hr' la lb lc lm hx
 go_enter Tryz.func213, Tryz.ntmps213
 go_wp2_with fail
 refine (Hid.out ra).mono ?_
 rintro e w' ⟨rfl, rfl⟩
 go_wp2_with fail
 refine (Hid.out rb).mono ?_
 rintro e w' ⟨rfl, rfl⟩
 go_wp2_with fail
 refine (Hid.out rc).mono ?_
 rintro e w' ⟨rfl, rfl⟩
 go_wp2_with fail
 go_ret
 exact ⟨rfl, rfl⟩

set_option maxHeartbeats 1000000 in
theorem rotB (x : Nat) (w : World) (hx : x < 4294967296) :
 Calls Tryz.prog 213 #[.int .u32 (x : Int), .int .i64 2, .int .i64 13, .int .i64 22] w fun e w' => e = .returned (.int .u32 (Sha.rot3 x 2 13 22 : Nat)) ∧ w = w' := by
 have ra := Lib.hid (rot_any x 30 2 (-2) w hx (by omega) (by omega) (by omega) (by decide +kernel))
 have rb := Lib.hid (rot_any x 19 13 (-13) w hx (by omega) (by omega) (by omega) (by decide +kernel))
 have rc := Lib.hid (rot_any x 10 22 (-22) w hx (by omega) (by omega) (by omega) (by decide +kernel))
 have la := Sha.ror_lt x 2 hx
 have lb := Sha.ror_lt x 13 hx
 have lc := Sha.ror_lt x 22 hx
 obtain ⟨r, hr⟩ : ∃ r, Hid (Sha.rot3 x 2 13 22 = r) := ⟨_, rfl⟩
 have hr' := hr.out
 unfold Sha.rot3 at hr'
 obtain ⟨va, ea⟩ : ∃ v, Sha.ror x 2 = v := ⟨_, rfl⟩
 obtain ⟨vb, eb⟩ : ∃ v, Sha.ror x 13 = v := ⟨_, rfl⟩
 obtain ⟨vc, ec⟩ : ∃ v, Sha.ror x 22 = v := ⟨_, rfl⟩
 rw [ea] at ra la hr'
 rw [eb] at rb lb hr'
 rw [ec] at rc lc hr'
 obtain ⟨vm, em⟩ : ∃ v, va ^^^ vb = v := ⟨_, rfl⟩
 have x1 := u32_xor_nat va vb la lb
 have lm := Sha.xor_lt la lb
 rw [em] at x1 lm hr'
 have x2 := u32_xor_nat vm vc lm lc
 rw [hr'] at x2
 rw [hr.out]
 clear ea eb ec em hr hr' la lb lc lm hx
 go_enter Tryz.func213, Tryz.ntmps213
 go_wp2_with fail
 refine (Hid.out ra).mono ?_
 rintro e w' ⟨rfl, rfl⟩
 go_wp2_with fail
 refine (Hid.out rb).mono ?_
 rintro e w' ⟨rfl, rfl⟩
 go_wp2_with fail
 refine (Hid.out rc).mono ?_
 rintro e w' ⟨rfl, rfl⟩
 go_wp2_with fail
 go_ret
 exact ⟨rfl, rfl⟩

theorem or_byte (v x : Nat) (hv : v ≤ 16777215) (hx : x < 256) : bits .or .u32 ((v : Int) * 256) (x : Int) = ((v * 256 + x : Nat) : Int) := by
 have h := u32_or_nat (v * 256) x (by omega) (by omega)
 have e : v * 256 ||| x = v * 256 + x := by
  have := Nat.shiftLeft_add_eq_or_of_lt (i := 8) (b := x) (by omega) v
  rw [Nat.shiftLeft_eq] at this
  exact this.symm
 rw [e, Int.natCast_mul] at h
 exact h

set_option maxHeartbeats 1000000 in
theorem word_any (b off n c : Nat) (l : List Nat) (w : World) (H : ∀ (i : Nat) x, l[i]? = some x → w.cell? ⟨b, off + i, none⟩ = some (.int .u8 (x : Int))) (hl : l.length = 4) (hlt : ∀ x ∈ l, x < 256) (hc : 4 ≤ c) (_hn : n ≤ c) (hmx : c ≤ 9223372036854775807) :
 Calls Tryz.prog 211 #[.slice (some ⟨b, off, none⟩) n c] w fun e w' => e = .returned (.int .u32 (valB l : Nat)) ∧ w = w' := by
 have hc' : (4 : Int) ≤ (c : Int) := by omega
 obtain ⟨r, hr⟩ : ∃ r, Hid (valB l = r) := ⟨_, rfl⟩
 rw [hr.out]
 go_enter Tryz.func211, Tryz.ntmps211
 go_wp2_with fail
 go_loop [2, 8] (fun v i => ∃ k : Nat, k ≤ 4 ∧ i = .int .i64 k ∧ v = .int .u32 (valB (l.take k) : Nat)) (fun _ i => 4 - (intOf i).toNat)
 case atStart => exact ⟨0, by omega, rfl, rfl⟩
 case round =>
  obtain ⟨k, hk, rfl, rfl⟩ := hrel
  by_cases hlt' : k < 4
  · have hkl : k < l.length := by omega
    have c0 := H k l[k] (List.getElem?_eq_getElem hkl)
    have hx := hlt l[k] (List.getElem_mem hkl)
    have hv : valB (l.take k) < 256 ^ k := by
     have := valB_lt (l.take k) (fun x hx => hlt x (List.mem_of_mem_take hx))
     rwa [List.length_take, Nat.min_eq_left (by omega)] at this
    have hp : 256 ^ k ≤ 256 ^ 3 := Nat.pow_le_pow_right (by omega) (by omega)
    have hs : valB (l.take (k + 1)) = valB (l.take k) * 256 + l[k] := by rw [List.take_succ_eq_append_getElem hkl, valB_snoc]
    obtain ⟨v, ev⟩ : ∃ v, valB (l.take k) = v := ⟨_, rfl⟩
    rw [ev] at hv hs ⊢
    generalize l[k] = x at *
    have hb := or_byte v x (by omega) hx
    have hs' := Lib.hid hs
    have v1 : (v : Int) ≤ 16777215 := by omega
    have x1 : (x : Int) ≤ 255 := by omega
    have k1 : (k : Int) < 4 := by omega
    have k0 : (0 : Int) ≤ (k : Int) := by omega
    obtain ⟨v2, hv2⟩ : ∃ v2, Hid (v * 256 + x = v2) := ⟨_, rfl⟩
    rw [hv2.out] at hb
    clear hs ev hp hv hkl hx H hlt
    go_wp2_with fail
    go_round
    case rel => exact ⟨k + 1, by omega, by go_num, by rw [hs'.out, hv2.out]⟩
    case measure => simp [intOf]; omega
  · obtain rfl : k = 4 := by omega
    have e : Hid (l.take 4 = l) := List.take_of_length_le (by omega)
    go_wp2_with fail
    go_ret
    exact ⟨by rw [e.out, hr.out]; rfl, rfl⟩

end Go.Proofs.YtnonfdcbnkdmcaaGreatDoor
