/- the field of scalars -/
import Derived.Test.YtnonfdcbnkdmcaaGreatDoorGrp2
import Derived.Lib.SmallJoins
namespace Fld
def out (n : Int) : Bool := decide (n < 0 ∨ 2305843009213688669 ≤ n)
def idx : Nat → List Int → Int
 | _, [] => -1
 | k, x :: r => if out x then (k : Int) else idx (k + 1) r
theorem idx_cons_t {k : Nat} {x : Int} {r : List Int} (h : out x = true) : idx k (x :: r) = k := by simp [idx, h]
theorem idx_cons_f {k : Nat} {x : Int} {r : List Int} (h : out x = false) : idx k (x :: r) = idx (k + 1) r := by simp [idx, h]
theorem idx_ge : ∀ (l : List Int) (k : Nat), decide (0 ≤ idx k l) = l.any out := by
 intro l
 induction l with
 | nil => intro k; rfl
 | cons x r ih =>
  intro k
  cases h : out x
  · rw [idx_cons_f h, ih]; simp [h]
  · rw [idx_cons_t h]; simp [h]
def add (a b : Int) : Int × Int := if out a || out b then (0, 1) else ((a + b) % 2305843009213688669, 0)
def mul (a b : Int) : Int × Int := if out a || out b then (0, 1) else (a * b % 2305843009213688669, 0)
def chk (a : Int) : Int := if out a then 1 else 0
theorem out_f {a : Int} (h : out a = false) : 0 ≤ a ∧ a < 2305843009213688669 := by
 have := of_decide_eq_false h; omega
end Fld
namespace Go.Proofs.YtnonfdcbnkdmcaaGreatDoor
open Go.RowKit Go.Shelf

theorem out1_any (n : Int) (w : World) : Calls Tryz.prog 194 #[.int .i64 n] w fun e w' => e = .returned (.bool (Fld.out n)) ∧ w = w' := by
 by_cases h1 : n < 0
 · have hr : Hid (Fld.out n = true) := by show _ = _; simp [Fld.out, h1]
   go_enter Tryz.func194, Tryz.ntmps194
   go_wp2_with fail
   go_ret
   exact ⟨by rw [hr.out]; rfl, rfl⟩
 · by_cases h2 : 2305843009213688669 ≤ n
   · have hr : Hid (Fld.out n = true) := by show _ = _; simp [Fld.out, h2]
     have h1' : decide (n < 0) = false := by simpa using h1
     go_enter Tryz.func194, Tryz.ntmps194
     go_wp2_with fail
     go_ret
     exact ⟨by rw [hr.out]; rfl, rfl⟩
   · have hr : Hid (Fld.out n = false) := by show _ = _; simp [Fld.out]; omega
     have h1' : decide (n < 0) = false := by simpa using h1
     have h2' : decide ((2305843009213688669 : Int) ≤ n) = false := by simpa using h2
     go_enter Tryz.func194, Tryz.ntmps194
     go_wp2_with fail
     go_ret
     exact ⟨by rw [hr.out]; rfl, rfl⟩

structure Nums (w : World) (b n : Nat) (l : List Int) : Prop where
 len : l.length = n
 max : n ≤ 1000
 cells : ∀ (i : Nat) x, l[i]? = some x → w.cell? ⟨b, i, none⟩ = some (.int .i64 x)

set_option maxHeartbeats 1000000 in
theorem indexFunc_any (b n c : Nat) (l : List Int) (w : World) (H : Nums w b n l) :
 Calls Tryz.prog 217 #[.slice (some ⟨b, 0, none⟩) n c, .func (.func 194) #[] #[]] w fun e w' => e = .returned (.int .i64 (Fld.idx 0 l)) ∧ w = w' := by
 have hmx := H.max
 go_enter Tryz.func217, Tryz.ntmps217
 go_wp2_with fail
 go_loop [8] (fun i => ∃ k : Nat, k ≤ n ∧ i = .int .i64 k ∧ Fld.idx k (l.drop k) = Fld.idx 0 l) (fun i => n - (intOf i).toNat)
 case atStart => exact ⟨0, Nat.zero_le _, rfl, rfl⟩
 case round =>
  obtain ⟨k, hk, rfl, hinv⟩ := hrel
  by_cases hlt : k < n
  · have hkl : k < l.length := by rw [H.len]; exact hlt
    have c0 := H.cells k l[k] (List.getElem?_eq_getElem hkl)
    rw [List.drop_eq_getElem_cons hkl] at hinv
    generalize l[k] = x at *
    have hlt' : (k : Int) < (n : Int) := by omega
    cases ho : Fld.out x
    · have hinv' : Hid (Fld.idx (k + 1) (l.drop (k + 1)) = Fld.idx 0 l) := by rw [Fld.idx_cons_f ho] at hinv; exact hinv
      have ho' := Lib.hid ho
      clear hinv ho hkl
      go_wp2_with fail
      refine (out1_any x w).mono ?_
      rintro e w' ⟨rfl, rfl⟩
      rw [ho'.out]
      go_wp2_with fail
      go_round
      case rel => exact ⟨k + 1, by omega, by go_num, hinv'.out⟩
      case measure => simp [intOf]; omega
    · have hinv' : Hid ((k : Int) = Fld.idx 0 l) := by rw [Fld.idx_cons_t ho] at hinv; exact hinv
      have ho' := Lib.hid ho
      clear hinv ho hkl
      go_wp2_with fail
      refine (out1_any x w).mono ?_
      rintro e w' ⟨rfl, rfl⟩
      rw [ho'.out]
      go_wp2_with fail
      go_ret
      exact ⟨by rw [← hinv'.out]; rfl, rfl⟩
  · obtain rfl : k = n := by omega
    have hinv' : Hid (-1 = Fld.idx 0 l) := by rw [List.drop_eq_nil_of_le (by rw [H.len]; omega)] at hinv; exact hinv
    clear hinv
    go_wp2_with fail
    go_ret
    exact ⟨by rw [← hinv'.out]; rfl, rfl⟩

theorem outside_any (b n c : Nat) (l : List Int) (w : World) (H : Nums w b n l) :
 Calls Tryz.prog 171 #[.slice (some ⟨b, 0, none⟩) n c] w fun e w' => e = .returned (.bool (l.any Fld.out)) ∧ w = w' := by
 have hcf : Calls Tryz.prog 193 #[.slice (some ⟨b, 0, none⟩) n c, .func (.func 194) #[] #[]] w fun e w' => e = .returned (.bool (l.any Fld.out)) ∧ w = w' := by
  have hi := Lib.hid (indexFunc_any b n c l w H)
  have hg := Fld.idx_ge l 0
  obtain ⟨r, hr⟩ : ∃ r, Fld.idx 0 l = r := ⟨_, rfl⟩
  rw [hr] at hi hg
  rw [← hg]
  clear hg hr
  go_enter Tryz.func193, Tryz.ntmps193
  go_wp2_with fail
  refine (Hid.out hi).mono ?_
  rintro e w' ⟨rfl, rfl⟩
  go_wp2_with fail
  go_ret
  exact ⟨rfl, rfl⟩
 have hcf' := Lib.hid hcf
 clear hcf
 go_enter Tryz.func171, Tryz.ntmps171
 go_wp2_with fail
 refine (Hid.out hcf').mono ?_
 rintro e w' ⟨rfl, rfl⟩
 go_wp2_with fail
 go_ret
 exact ⟨rfl, rfl⟩

theorem cellsB (w : World) (a b : Int) (t : TypeId) : Nums (w.alloc (.cells #[.int .i64 a, .int .i64 b] t)) w.heap.size 2 [a, b] :=
 ⟨rfl, by omega, fun i x h => by
  match i, h with
  | 0, h => cases h; rw [cell_of_row _ _ _ _ _ _ (heap_alloc_new w _)]; rfl
  | 1, h => cases h; rw [cell_of_row _ _ _ _ _ _ (heap_alloc_new w _)]; rfl⟩

set_option maxHeartbeats 1000000 in
theorem fadd_any (a b : Int) (w : World) : Calls Tryz.prog 130 #[.int .i64 a, .int .i64 b] w (RetII (Fld.add a b) w) := by
 have hc := fun (W : World) t => outside_any W.heap.size 2 2 [a, b] _ (cellsB W a b t)
 simp only [List.any_cons, List.any_nil, Bool.or_false] at hc
 cases ho : (Fld.out a || Fld.out b)
 · have hr : Hid (Fld.add a b = ((a + b) % 2305843009213688669, 0)) := by show _ = _; simp only [Fld.add, ho]; rfl
   rw [Bool.or_eq_false_iff] at ho
   obtain ⟨a1, a2⟩ := Fld.out_f ho.1
   obtain ⟨b1, b2⟩ := Fld.out_f ho.2
   rw [ho.1, ho.2] at hc
   have hc' := Lib.hid hc
   clear hc ho
   go_enter Tryz.func130, Tryz.ntmps130
   go_wp2_with fail
   refine (Hid.out hc' _ _).mono ?_
   rintro e w' ⟨rfl, rfl⟩
   go_wp2_with fail
   go_ret2
   exact ⟨by rw [hr.out]; rfl, (Below.refl _ _).alloc (Nat.le_refl _) _⟩
 · have hr : Hid (Fld.add a b = (0, 1)) := by show _ = _; simp only [Fld.add, ho]; rfl
   rw [ho] at hc
   have hc' := Lib.hid hc
   clear hc ho
   go_enter Tryz.func130, Tryz.ntmps130
   go_wp2_with fail
   refine (Hid.out hc' _ _).mono ?_
   rintro e w' ⟨rfl, rfl⟩
   go_wp2_with fail
   go_ret2
   exact ⟨by rw [hr.out]; rfl, (Below.refl _ _).alloc (Nat.le_refl _) _⟩

set_option maxHeartbeats 1000000 in
theorem product_any (a b : Int) (w : World) (a1 : 0 ≤ a) (a2 : a < 2305843009213688669) (b1 : 0 ≤ b) (b2 : b < 2305843009213688669) :
 Calls Tryz.prog 172 #[.int .i64 a, .int .i64 b] w fun e w' => e = .returned (.int .i64 (a * b % 2305843009213688669)) ∧ ∃ n, w' = w.drewN n := by
 obtain ⟨n, rfl⟩ := Int.eq_ofNat_of_zero_le a1
 obtain ⟨m, rfl⟩ := Int.eq_ofNat_of_zero_le b1
 have hp := prod_parts n m Grp.Q (by unfold Grp.Q; omega) (by unfold Grp.Q; omega) (by decide)
 obtain ⟨hi, hhi⟩ : ∃ x, n * m / 18446744073709551616 = x := ⟨_, rfl⟩
 obtain ⟨lo, hlo⟩ : ∃ x, n * m % 18446744073709551616 = x := ⟨_, rfl⟩
 rw [hhi, hlo] at hp
 obtain ⟨h1, h2, h3⟩ := hp
 obtain ⟨v, hv⟩ : ∃ v, Hid (n * m % Grp.Q = v) := ⟨_, rfl⟩
 have hres : ((n : Int) * (m : Int) % 2305843009213688669) = (v : Int) := by rw [← hv.out]; unfold Grp.Q; omega
 have hvl : v < 2305843009213688669 := by rw [← hv.out]; exact Nat.mod_lt _ (by decide)
 have hm := fun W => Tryz.bits_Mul64 n m (by omega) (by omega) W
 rw [hhi, hlo] at hm
 have hd := fun W => div_all 61 (.inl rfl) hi lo Grp.Q W h2 (by decide) (by decide) h1
 rw [h3, hv.out] at hd
 rw [hres]
 have hm' := Lib.hid hm
 have hd' : Hid (∀ W, Calls Tryz.prog 196 #[.int .u64 hi, .int .u64 lo, .int .u64 2305843009213688669] W (DivPost (v : Int) W)) := Lib.hid hd
 have n0 : (0 : Int) ≤ (n : Int) := by omega
 have m0 : (0 : Int) ≤ (m : Int) := by omega
 have v0 : (0 : Int) ≤ (v : Int) := by omega
 have v1 : (v : Int) ≤ 2305843009213688668 := by omega
 clear hm hd hhi hlo h1 h2 h3 hres
 go_enter Tryz.func172, Tryz.ntmps172
 go_wp2_with fail
 refine (Hid.out hm' _).mono ?_
 rintro e w' ⟨rfl, hw⟩
 rw [hw]
 go_wp2_with fail
 refine (Hid.out hd' _).mono ?_
 rintro e w' ⟨q, rfl, nn, rfl⟩
 go_wp2_with fail
 go_ret
 exact ⟨rfl, nn, rfl⟩

set_option maxHeartbeats 1000000 in
theorem fmul_any (a b : Int) (w : World) : Calls Tryz.prog 129 #[.int .i64 a, .int .i64 b] w (RetII (Fld.mul a b) w) := by
 have hc := fun (W : World) t => outside_any W.heap.size 2 2 [a, b] _ (cellsB W a b t)
 simp only [List.any_cons, List.any_nil, Bool.or_false] at hc
 cases ho : (Fld.out a || Fld.out b)
 · have hr : Hid (Fld.mul a b = (a * b % 2305843009213688669, 0)) := by show _ = _; simp only [Fld.mul, ho]; rfl
   rw [Bool.or_eq_false_iff] at ho
   obtain ⟨a1, a2⟩ := Fld.out_f ho.1
   obtain ⟨b1, b2⟩ := Fld.out_f ho.2
   have hp := fun W => product_any a b W a1 a2 b1 b2
   rw [ho.1, ho.2] at hc
   obtain ⟨v, hv⟩ : ∃ v, Hid (a * b % 2305843009213688669 = v) := ⟨_, rfl⟩
   rw [hv.out] at hp hr
   have hp' := Lib.hid hp
   have hc' := Lib.hid hc
   clear hc ho hp a1 a2 b1 b2
   go_enter Tryz.func129, Tryz.ntmps129
   go_wp2_with fail
   refine (Hid.out hc' _ _).mono ?_
   rintro e w' ⟨rfl, rfl⟩
   go_wp2_with fail
   refine (Hid.out hp' _).mono ?_
   rintro e w' ⟨rfl, nn, rfl⟩
   go_wp2_with fail
   go_ret2
   exact ⟨by rw [hr.out]; rfl, ((Below.refl _ _).alloc (Nat.le_refl _) _).trans (below_drewN _ _ _)⟩
 · have hr : Hid (Fld.mul a b = (0, 1)) := by show _ = _; simp only [Fld.mul, ho]; rfl
   rw [ho] at hc
   have hc' := Lib.hid hc
   clear hc ho
   go_enter Tryz.func129, Tryz.ntmps129
   go_wp2_with fail
   refine (Hid.out hc' _ _).mono ?_
   rintro e w' ⟨rfl, rfl⟩
   go_wp2_with fail
   go_ret2
   exact ⟨by rw [hr.out]; rfl, (Below.refl _ _).alloc (Nat.le_refl _) _⟩
end Go.Proofs.YtnonfdcbnkdmcaaGreatDoor

