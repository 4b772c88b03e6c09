/- the group: products and powers modulo P -/
import Derived.Test.YtnonfdcbnkdmcaaGreatDoorDiv
import Derived.RangeFuncFrom
import Derived.RangeFuncBox
import Derived.RangeFuncLeaves
import Derived.RangeFuncBound
import Derived.RangeFuncCalls
import Derived.Shelf.Abstract
import Derived.OwnWalkIn
import Derived.TacticsInMore
import Derived.LoopNIn
import Derived.LoopIn
import Derived.StillTailTactics
import Derived.WalkSmall
theorem Grp.tops_prefix {k n j : Nat} {b : Bool} (h : Grp.tops k n (j + 1) = Grp.tops k n j ++ [b]) (hj : j < n) : (Grp.tops k n j ++ [b]) <+: Grp.tops k n n := by
  rw [← h]
  refine ⟨(List.range' (j + 1) (n - (j + 1))).map fun i => k.testBit (n - 1 - i), ?_⟩
  unfold Grp.tops
  rw [← List.map_append]
  congr 1
  rw [List.range_eq_range', List.range_eq_range']
  have h2 : List.range' 0 (j + 1) ++ List.range' (0 + (j + 1)) (n - (j + 1)) = List.range' 0 (j + 1 + (n - (j + 1))) := List.range'_append_1
  rw [Nat.zero_add] at h2
  rw [h2]
  congr 1
  omega
namespace Go.Proofs.YtnonfdcbnkdmcaaGreatDoor
open Go.RowKit Go.Shelf

theorem below_drewN (w : World) (n B : Nat) : Below B w (w.drewN n) := ⟨rfl, rfl, rfl, Nat.le_refl _, fun _ _ => rfl⟩

def RetU (v : Nat) (w : World) (e : Ending) (w' : World) : Prop := e = .returned (.int .u64 (v : Int)) ∧ ∃ n, w' = w.drewN n

theorem div_all (k : Nat) (hk : k = 61 ∨ k = 62) (hi lo y : Nat) (w : World) (hlo : lo < 18446744073709551616) (hy : 2 ^ (k - 1) ≤ y) (hy2 : y < 2 ^ k) (hhi : hi < y) :
 Calls Tryz.prog 196 #[.int .u64 hi, .int .u64 lo, .int .u64 y] w (DivPost (((hi * 18446744073709551616 + lo) % y : Nat) : Int) w) := by
 rcases Nat.eq_zero_or_pos hi with h | h
 · subst h
   have := div_zero lo y w hlo (by omega) (by rcases hk with rfl | rfl <;> omega)
   rw [Nat.zero_mul, Nat.zero_add]; exact this
 · rcases hk with rfl | rfl
   · exact div_3 hi lo y w hlo hy hy2 hhi h
   · exact div_2 hi lo y w hlo hy hy2 hhi h

theorem prod_parts (a b m : Nat) (ha : a < m) (hb : b < m) (hm : m ≤ 4611686018427387904) : a * b / 18446744073709551616 < m ∧ a * b % 18446744073709551616 < 18446744073709551616 ∧ a * b / 18446744073709551616 * 18446744073709551616 + a * b % 18446744073709551616 = a * b := by
 have h1 : a * b ≤ m * 4611686018427387904 := Nat.mul_le_mul (by omega) (by omega)
 refine ⟨?_, by omega, by omega⟩
 rw [Nat.div_lt_iff_lt_mul (by omega)]
 omega

set_option maxHeartbeats 1000000 in
theorem times_any (a b : Nat) (w : World) (ha : a < Grp.P) (hb : b < Grp.P) : Calls Tryz.prog 186 #[.int .u64 (a : Int), .int .u64 (b : Int)] w (RetU (a * b % Grp.P) w) := by
 have hp := prod_parts a b Grp.P ha hb (by decide)
 obtain ⟨hi, hhi⟩ : ∃ x, a * b / 18446744073709551616 = x := ⟨_, rfl⟩
 obtain ⟨lo, hlo⟩ : ∃ x, a * b % 18446744073709551616 = x := ⟨_, rfl⟩
 rw [hhi, hlo] at hp
 obtain ⟨h1, h2, h3⟩ := hp
 rw [← h3]
 have ha' : a < 18446744073709551616 := Nat.lt_trans ha (by decide)
 have hb' : b < 18446744073709551616 := Nat.lt_trans hb (by decide)
 have hm := Tryz.bits_Mul64 a b ha' hb' w
 rw [hhi, hlo] at hm
 have hd := div_all 62 (.inr rfl) hi lo Grp.P w h2 (by decide) (by decide) h1
 have hm' := Lib.hid hm; have hd' := Lib.hid hd
 clear hm hd hhi hlo h1 h2 h3 ha hb ha' hb'
 go_enter Tryz.func186, Tryz.ntmps186
 go_wp2_with fail
 refine (Hid.out hm').mono ?_
 rintro e w' ⟨rfl, hw⟩
 rw [hw]
 go_wp2_with fail
 refine (Hid.out hd').mono ?_
 rintro e w' ⟨q, rfl, n, rfl⟩
 go_wp2_with fail
 go_ret
 exact ⟨rfl, n, rfl⟩

theorem cell_new_l (W : World) (v : Value) (t : TypeId) : (W.alloc (.cells #[v] t)).cell? ⟨W.heap.size, 0, none⟩ = some v ∧ (W.alloc (.cells #[v] t)).frozen? ⟨W.heap.size, 0, none⟩ = false :=
 ⟨by rw [cell_of_row _ _ _ _ _ _ (heap_alloc_new W _)]; rfl, frozen_of_row _ _ _ _ _ (heap_alloc_new W _)⟩
theorem cell_alloc_l {W : World} {a : Addr} {v : Value} (o : Obj) (h : W.cell? a = some v) : (W.alloc o).cell? a = some v := cell_kept h (World.grownBy_alloc W o none) (fun r e => by cases e)
theorem frozen_alloc_l {W : World} {a : Addr} {v : Value} (o : Obj) (h : W.cell? a = some v) (hf : W.frozen? a = false) : (W.alloc o).frozen? a = false := (frozen_kept h (World.grownBy_alloc W o none) (fun r e => by cases e)).trans hf

theorem bit_at (k e : Nat) (hk : k < 18446744073709551616) : (bits .and .u64 ((k : Int) / 2 ^ e) 1 == 1) = k.testBit e := by
 have h1 : ((k : Int) / 2 ^ e) = ((k / 2 ^ e : Nat) : Int) := by rw [Int.natCast_ediv, Int.natCast_pow]; rfl
 have h2 : k / 2 ^ e ≤ k := Nat.div_le_self _ _
 rw [h1, Go.and_one_u64 _ (Int.natCast_nonneg _) (by omega), Nat.testBit_eq_decide_div_mod_eq]
 by_cases h : k / 2 ^ e % 2 = 1
 · rw [decide_eq_true h]; simp; omega
 · rw [decide_eq_false h]; simp; omega

attribute [local go_sem] Oper.semAt_some

def KeepC (b : Nat) (A B : World) : Prop := A.heap.size ≤ B.heap.size ∧ B.cell? ⟨b, 0, none⟩ = A.cell? ⟨b, 0, none⟩
theorem keepC_t {b : Nat} {A B C : World} (h : KeepC b A B) (k : KeepC b B C) : KeepC b A C := ⟨Nat.le_trans h.1 k.1, k.2.trans h.2⟩
theorem keepC_b {b : Nat} {w : World} (hb : b < w.heap.size) (W : World) (l : Nat) (o o' : Obj) (hl : w.heap.size ≤ l) (h : W.heap[l]? = some o) (_ : o.isCells = false) (_ : o.isWalk = false) : KeepC b W (W.putObj l o') :=
 ⟨(grownBy_putObj' W l o').size, World.cell?_of_block ((grownBy_putObj' W l o').block b (by have := (Array.getElem?_eq_some_iff.1 h).1; omega) (fun e => by cases e; omega))⟩

set_option maxHeartbeats 2000000 in
theorem digits_in (l Bs k n : Nat) (hn : n = Lib.bitLen k) (hk : k < 18446744073709551616) (J Jx : List Bool → World → Prop) (W : World)
 (_hJa : AbidesFrom W.heap.size J)
 (hY : ∀ pre x W1, J pre W1 → pre.length < n → YieldAt Fence.wide 4 Tryz.prog l #[.bool x] W1 fun e W' =>
   (e = .returned (.bool true) ∧ J (pre ++ [x]) W' ∧ KeepC Bs W1 W') ∨ (e = .returned (.bool false) ∧ Jx (pre ++ [x]) W'))
 (hBs : W.cell? ⟨Bs, 0, none⟩ = some (.int .u64 (k : Int))) (h0 : J [] W) :
 CallsIn Fence.wide 5 Tryz.prog 222 #[.func (.yield l) #[] #[], .pointer (some ⟨Bs, 0, none⟩)] W fun e W' => (∃ v, e = .returned v) ∧
  ((∃ ys, ys = Grp.tops k n n ∧ J ys W') ∨ (∃ pre, pre <+: Grp.tops k n n ∧ Jx pre W')) := by
 have hl := Tryz.bits_Len64 (k : Int) W (by omega) (by omega)
 rw [Int.toNat_natCast, ← hn] at hl
 have hl' := Lib.hid hl
 have hn64 : n ≤ 64 := by rw [hn]; exact Lib.bitLen_le k 64 (Nat.le_refl _) hk
 have hn' := Lib.hid hn
 clear hl hn
 refine callsIn_of_wp Tryz.func222 rfl trivial ?_ rfl
 simp only [Tryz.ntmps222, List.size_toArray, List.length_cons, List.length_nil, Nat.reduceAdd, Nat.reduceSub, Array.replicate_succ, Array.replicate_zero, List.push_toArray, List.append_toArray, List.nil_append, List.cons_append]
 gi_wp2_with fail
 refine ⟨trivial, (callsIn_wide.2 hl'.out).mono ?_⟩
 rintro e w' ⟨rfl, hw⟩
 rw [hw]
 gi_wp2_with fail
 gi_loopw [3] (fun i wr => ∃ j : Nat, j ≤ n ∧ i = .int .i64 ((n : Int) - 1 - (j : Int)) ∧ J (Grp.tops k n j) wr ∧ wr.cell? ⟨Bs, 0, none⟩ = some (.int .u64 (k : Int)))
  (fun i _ => (intOf i + 1).toNat)
 case atStart => exact ⟨0, Nat.zero_le _, by simp, h0, hBs⟩
 case round =>
  obtain ⟨j, hj, rfl, hJs, hc⟩ := hrel
  by_cases hlt : j < n
  · obtain ⟨e, he⟩ : ∃ e : Nat, Hid (n - 1 - j = e) := ⟨_, rfl⟩
    have he0 := he.out
    rw [show (n : Int) - 1 - (j : Int) = (e : Int) by omega]
    have he64 : (e : Int) < 64 := by omega
    have hee : (0 : Int) ≤ (e : Int) := by omega
    have hbit := bit_at k e hk
    have hts : Hid (Grp.tops k n (j + 1) = Grp.tops k n j ++ [k.testBit e]) := by show _ = _; rw [Grp.tops_succ, he0]
    have hne : Hid ((e : Int) - 1 = (n : Int) - 1 - ((j + 1 : Nat) : Int)) := by show _ = _; omega
    obtain ⟨fn, tmps, assign, body, hy, hR⟩ := hY _ (k.testBit e) wr hJs (by rw [Grp.tops_length]; exact hlt)
    have hJ' := Lib.hid hJs
    clear he0 hJs hY
    generalize k.testBit e = bt at *
    gi_wp2
    refine hR.mono ?_
    rintro e' W3 (⟨rfl, hJ3, hk3⟩ | ⟨rfl, hJx3⟩)
    · gi_wp2
      go_roundw
      case rel => exact ⟨j + 1, by omega, by rw [hne.out], by rw [hts.out]; exact hJ3, hk3.2.trans hc⟩
      case measure => simp [intOf]
    · gi_wp2
      refine bodyPost_ret (results_none rfl _ _ _) rfl ?_
      exact ⟨⟨_, rfl⟩, .inr ⟨_, Grp.tops_prefix hts.out hlt, hJx3⟩⟩
  · obtain rfl : j = n := by omega
    rw [show (j : Int) - 1 - (j : Int) = -1 by omega]
    gi_wp2
    go_end0
    exact ⟨⟨_, rfl⟩, .inl ⟨_, rfl, hJs⟩⟩

theorem digits_stops (Bs k n : Nat) (hn : n = Lib.bitLen k) (hk : k < 18446744073709551616) (w : World) (hBl : Bs < w.heap.size) (hc : w.cell? ⟨Bs, 0, none⟩ = some (.int .u64 (k : Int))) :
 SeqStopsK Fence.wide 5 Tryz.prog 222 #[.pointer (some ⟨Bs, 0, none⟩)] (fun x : Bool => #[Value.bool x]) (KeepC Bs) (fun ys => ys = Grp.tops k n n) (fun pre => pre <+: Grp.tops k n n) n w := fun l J Jx W hW hJ _ hY h0 => by
 have hc' := (hW.cell (p := ⟨Bs, 0, none⟩) hBl).trans hc
 exact digits_in l Bs k n hn hk J Jx W hJ hY hc' h0

theorem digits_any (k : Int) (w : World) :
 Calls Tryz.prog 210 #[.int .u64 k] w fun e w' => e = .returned (.func (.func 222) #[] #[.pointer (some ⟨w.heap.size, 0, none⟩)]) ∧ w' = w.alloc (.cells #[.int .u64 k] 195) := by
 go_enter Tryz.func210, Tryz.ntmps210
 go_wp2
 go_ret
 exact ⟨rfl, rfl⟩


theorem Grp.foldl_lt (a : Nat) : ∀ (l : List Bool) (c : Nat), c < Grp.P → l.foldl (Grp.step a) c < Grp.P := by
 intro l
 induction l with
 | nil => intro c h; exact h
 | cons b r ih => intro c _; refine ih _ ?_; unfold Grp.step; split <;> exact Nat.mod_lt _ Grp.P_pos
theorem Grp.powL_lt (a : Nat) (l : List Bool) : Grp.powL a l < Grp.P := Grp.foldl_lt a l 1 Grp.P_one
theorem Grp.step_f (a c : Nat) : Grp.step a c false = c * c % Grp.P := rfl
theorem Grp.step_t (a c : Nat) : Grp.step a c true = (c * c % Grp.P) * a % Grp.P := rfl
theorem keepsOthers_drewN (W : World) (n : Nat) : KeepsOthers W (W.drewN n) := ⟨Nat.le_refl _, fun _ _ h _ => h⟩
theorem bitLen_pow (k : Nat) (h : k < 18446744073709551616) : k < 2 ^ Lib.bitLen k := by
 induction k using Nat.strongRecOn with
 | _ k ih =>
  by_cases h0 : k = 0
  · subst h0; exact Nat.two_pow_pos _
  · have h1 := Lib.bitLen_half k h0 h
    have h2 := ih (k / 2) (by omega) (by omega)
    rw [h1, Nat.add_comm, Nat.pow_succ]
    omega

def RetB (v : Int) (w : World) (e : Ending) (w' : World) : Prop := e = .returned (.int .u64 v) ∧ Below w.heap.size w w'

set_option maxHeartbeats 4000000 in
theorem power_any (a k : Nat) (w : World) (ha : a < Grp.P) (hk : k < 18446744073709551616) :
 Calls Tryz.prog 185 #[.int .u64 (a : Int), .int .u64 (k : Int)] w (RetB (Grp.pw a k : Nat) w) := by
 have hlen := Lib.hid (bitLen_pow k hk)
 obtain ⟨n, hn⟩ : ∃ n, Hid (n = Lib.bitLen k) := ⟨_, rfl⟩
 have hfin : Hid (Grp.powL a (Grp.tops k n n) = Grp.pw a k) := by show _ = _; rw [hn.out]; exact Grp.powL_all a k _ hlen.out
 refine callsIn_wide (n := 6).1 ?_
 refine callsIn_of_wp_marks Tryz.func185 rfl trivial ?_ rfl
 simp only [Tryz.ntmps185, List.size_toArray, List.length_cons, List.length_nil, Nat.reduceAdd, Nat.reduceSub, Array.replicate_succ, Array.replicate_zero, List.push_toArray, List.append_toArray, List.nil_append, List.cons_append]
 gi_wp2_with fail
 refine ⟨trivial, (callsIn_wide.2 (digits_any (k : Int) _)).mono ?_⟩
 rintro e w' ⟨rfl, rfl⟩
 gi_wp2_with fail
 obtain ⟨W3, hW3⟩ : ∃ W3, W3 = ((w.alloc (.cells #[.int .u64 (a : Int)] 195)).alloc (.cells #[.int .u64 1] 195)).alloc (.cells #[.int .u64 (k : Int)] 195) := ⟨_, rfl⟩
 obtain ⟨ca0, _⟩ := cell_new_l w (.int .u64 (a : Int)) 195
 obtain ⟨cc0, fc0⟩ := cell_new_l (w.alloc (.cells #[.int .u64 (a : Int)] 195)) (.int .u64 1) 195
 obtain ⟨ck0, _⟩ := cell_new_l ((w.alloc (.cells #[.int .u64 (a : Int)] 195)).alloc (.cells #[.int .u64 1] 195)) (.int .u64 (k : Int)) 195
 rw [World.size_alloc] at cc0 fc0
 rw [World.size_alloc, World.size_alloc] at ck0
 have ca : W3.cell? ⟨w.heap.size, 0, none⟩ = some (.int .u64 (a : Int)) := by rw [hW3]; exact cell_alloc_l _ (cell_alloc_l _ ca0)
 have cc : W3.cell? ⟨w.heap.size + 1, 0, none⟩ = some (.int .u64 1) := by rw [hW3]; exact cell_alloc_l _ cc0
 have fc : W3.frozen? ⟨w.heap.size + 1, 0, none⟩ = false := by rw [hW3]; exact frozen_alloc_l _ cc0 fc0
 have ck : W3.cell? ⟨w.heap.size + 1 + 1, 0, none⟩ = some (.int .u64 (k : Int)) := by rw [hW3]; exact ck0
 have hs3 : W3.heap.size = w.heap.size + 3 := by rw [hW3]; simp
 have hB3 : Below w.heap.size w W3 := by rw [hW3]; exact (((Below.refl _ _).alloc (Nat.le_refl _) _).alloc (by simp) _).alloc (by simp; omega) _
 rw [← hW3]
 clear hW3 ca0 cc0 fc0 ck0
 refine wpIn_rangeFunc_ownF rfl (by omega) (gf := 222) (lb := #[.pointer (some ⟨w.heap.size + 1 + 1, 0, none⟩)]) rfl trivial (enters_of Tryz.func222 (by kernel_rfl) rfl)
  (digits_stops (w.heap.size + 1 + 1) k n hn.out hk W3 (by omega) ck) keepC_t (keepC_b (by omega)) (Below.refl _ _) (fun _ => rfl)
  (fun pre W => ((W.cell? ⟨w.heap.size + 1, 0, none⟩ = some (.int .u64 (Grp.powL a pre : Nat)) ∧ W.frozen? ⟨w.heap.size + 1, 0, none⟩ = false) ∧ W.cell? ⟨w.heap.size, 0, none⟩ = some (.int .u64 (a : Int))) ∧ Below w.heap.size w W)
  (fun _ _ _ => False)
  (OwnFrom.and (Own.from (fun s A B row hs hg hr => ⟨⟨cell_kept hs.1.1 hg hr, (frozen_kept hs.1.1 hg hr).trans hs.1.2⟩, cell_kept hs.2 hg hr⟩) _) (ownFrom_below (Nat.le_refl _) (by omega)))
  (fun _ _ _ _ _ hs _ _ => hs)
  ⟨⟨⟨cc, fc⟩, ca⟩, hB3⟩
  (fun x => { tmps := #[.int .u64 (a : Int), .int .u64 (k : Int), .pointer (some ⟨w.heap.size, 0, none⟩), undef, .int .u64 0, .pointer (some ⟨w.heap.size + 1, 0, none⟩), .bool x, .int .u64 (k : Int), .func (.func 222) #[] #[.pointer (some ⟨w.heap.size + 1 + 1, 0, none⟩)], .bool x, undef, undef, undef, undef, undef, undef, undef, undef], defers := [] }) ?assign ?body ?done ?stop
 case assign =>
  intro l x W K hK
  gi_wp2
  exact hK
 case body =>
  rintro l pre x W ⟨⟨⟨hc, hf⟩, hac⟩, hB⟩ _
  have hlt := Lib.hid (Grp.powL_lt a pre)
  obtain ⟨c, hcd⟩ : ∃ c, Hid (Grp.powL a pre = c) := ⟨_, rfl⟩
  rw [hcd.out] at hc hlt
  have hne : ¬ w.heap.size + 1 = w.heap.size := by omega
  have hne2 : ¬ w.heap.size = w.heap.size + 1 := by omega
  obtain ⟨c2, hc2d⟩ : ∃ c2, Hid (c * c % Grp.P = c2) := ⟨_, rfl⟩
  have hl2 : Hid (c2 < Grp.P) := by show _ < _; rw [← hc2d.out]; exact Nat.mod_lt _ Grp.P_pos
  have ht1 := times_any c c W hlt.out hlt.out
  rw [hc2d.out] at ht1
  have ht1' := Lib.hid ht1
  clear ht1
  cases x with
  | false =>
   gi_wp2_with fail
   refine ⟨trivial, (CallsIn.inRound l (callsIn_wide.2 (Hid.out ht1'))).mono ?_⟩
   rintro e w' ⟨rfl, m, rfl⟩
   gi_wp2
   refine ⟨(keepsOthers_drewN _ _).trans (KeepsOthers.setCell _ _ _), ⟨by simp, ?_⟩, ⟨⟨⟨?_, by rw [World.frozen?_setCell]; exact hf⟩, ?_⟩, (hB.trans (below_drewN _ _ _)).setCell (p := ⟨w.heap.size + 1, 0, none⟩) (by show w.heap.size ≤ w.heap.size + 1; omega) _⟩⟩
   · exact World.cell?_setCell_other _ ⟨w.heap.size + 1, 0, none⟩ ⟨w.heap.size + 1 + 1, 0, none⟩ _ (by simp)
   · rw [Grp.powL_snoc, hcd.out, Grp.step_f, hc2d.out]; exact World.cell?_setCell_same' _ _ _ (by show (W.cell? _).isSome = true; rw [hc]; rfl)
   · exact (World.cell?_setCell_other _ ⟨w.heap.size + 1, 0, none⟩ ⟨w.heap.size, 0, none⟩ _ (by simp)).trans hac
  | true =>
   gi_wp2_with fail
   refine ⟨trivial, (CallsIn.inRound l (callsIn_wide.2 (Hid.out ht1'))).mono ?_⟩
   rintro e w' ⟨rfl, m, rfl⟩
   gi_wp2_with fail
   have hc2 : ((W.drewN m).setCell ⟨w.heap.size + 1, 0, none⟩ (.int .u64 (c2 : Int))).cell? ⟨w.heap.size + 1, 0, none⟩ = some (.int .u64 (c2 : Int)) :=
    World.cell?_setCell_same' _ _ _ (by show (W.cell? _).isSome = true; rw [hc]; rfl)
   have hf2 : ((W.drewN m).setCell ⟨w.heap.size + 1, 0, none⟩ (.int .u64 (c2 : Int))).frozen? ⟨w.heap.size + 1, 0, none⟩ = false := by rw [World.frozen?_setCell]; exact hf
   have hac2 : ((W.drewN m).setCell ⟨w.heap.size + 1, 0, none⟩ (.int .u64 (c2 : Int))).cell? ⟨w.heap.size, 0, none⟩ = some (.int .u64 (a : Int)) :=
    (World.cell?_setCell_other _ ⟨w.heap.size + 1, 0, none⟩ ⟨w.heap.size, 0, none⟩ _ (by simp)).trans hac
   have hk2 : Hid (((W.drewN m).setCell ⟨w.heap.size + 1, 0, none⟩ (.int .u64 (c2 : Int))).cell? ⟨w.heap.size + 1 + 1, 0, none⟩ = W.cell? ⟨w.heap.size + 1 + 1, 0, none⟩) :=
    World.cell?_setCell_other _ ⟨w.heap.size + 1, 0, none⟩ ⟨w.heap.size + 1 + 1, 0, none⟩ _ (by simp)
   have hko := Lib.hid ((keepsOthers_drewN W m).trans (KeepsOthers.setCell (W.drewN m) ⟨w.heap.size + 1, 0, none⟩ (.int .u64 (c2 : Int))))
   have hB2 := (hB.trans (below_drewN W m _)).setCell (p := ⟨w.heap.size + 1, 0, none⟩) (by show w.heap.size ≤ w.heap.size + 1; omega) (.int .u64 (c2 : Int))
   have hsz2 : W.heap.size ≤ ((W.drewN m).setCell ⟨w.heap.size + 1, 0, none⟩ (.int .u64 (c2 : Int))).heap.size := by simp
   generalize (W.drewN m).setCell ⟨w.heap.size + 1, 0, none⟩ (.int .u64 (c2 : Int)) = W2 at *
   obtain ⟨c3, hc3d⟩ : ∃ c3, Hid (c2 * a % Grp.P = c3) := ⟨_, rfl⟩
   have ht2 := times_any c2 a W2 hl2.out ha
   rw [hc3d.out] at ht2
   have ht2' := Lib.hid ht2
   have hc' := Lib.hid hc
   have hf' := Lib.hid hf
   have hac' := Lib.hid hac
   clear ht2 hc hf hac ht1'
   refine ⟨trivial, (CallsIn.inRound l (callsIn_wide.2 (Hid.out ht2'))).mono ?_⟩
   rintro e w' ⟨rfl, m2, rfl⟩
   gi_wp2
   refine ⟨hko.out.trans ((keepsOthers_drewN _ _).trans (KeepsOthers.setCell _ _ _)), ⟨by simpa using hsz2, ?_⟩, ⟨⟨⟨?_, by rw [World.frozen?_setCell]; exact hf2⟩, ?_⟩, (hB2.trans (below_drewN _ _ _)).setCell (p := ⟨w.heap.size + 1, 0, none⟩) (by show w.heap.size ≤ w.heap.size + 1; omega) _⟩⟩
   · exact (World.cell?_setCell_other _ ⟨w.heap.size + 1, 0, none⟩ ⟨w.heap.size + 1 + 1, 0, none⟩ _ (by simp)).trans hk2.out
   · rw [Grp.powL_snoc, hcd.out, Grp.step_t, hc2d.out, hc3d.out]; exact World.cell?_setCell_same' _ _ _ (by show (W2.cell? _).isSome = true; rw [hc2]; rfl)
   · exact (World.cell?_setCell_other _ ⟨w.heap.size + 1, 0, none⟩ ⟨w.heap.size, 0, none⟩ _ (by simp)).trans hac2
 case done =>
  rintro D ys W hD rfl ⟨⟨⟨hc, hf⟩, hac⟩, hB⟩ hK
  gi_wp2
  refine ⟨by simp, .inl ⟨_, _, rfl, run_takeDeferred hK, ?_⟩⟩
  exact ⟨_, results_tmp rfl _ _ _, by rw [← hfin.out]; rfl, hB.trans (belowK_b (w := W3) (by omega) _ D _ _ hD hK rfl rfl)⟩
 case stop =>
  rintro D c pre W _ _ h _
  exact h.elim

end Go.Proofs.YtnonfdcbnkdmcaaGreatDoor
