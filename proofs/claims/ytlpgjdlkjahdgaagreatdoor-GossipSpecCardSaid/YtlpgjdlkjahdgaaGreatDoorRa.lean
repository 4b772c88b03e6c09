/- a range over a function whose iterator writes rows of its own, and one captured variable's box, between the rounds: a law of the walk package paths: Leaf, up, along, Copath paths.along with sibling, Copath rows of digests that grow; directory.Prove directory.private, New, Set$1; slices.BinarySearchFunc at []api.Listing digests and roots compared the laws of chapter 35, plainly: what an iterator over a path hands out; one path, two things; a change directory.climb and what it hands out directory.New, Signed directory.Verify -/
import Derived.Test.YtlpgjdlkjahdgaaGreatDoorAl
import Derived.RangeFuncWrites
import Derived.RangeFuncNested
import Derived.RangeFuncRecord
import Derived.RangeFuncBound
import Derived.RangeFuncCalls
import Derived.Test.YtlpgjdlkjahdgaaGreatDoorDgs
import Derived.Test.YtlpgjdlkjahdgaaGreatDoorDiG
import Derived.RangeFuncFrom
import Derived.RangeFuncBox
import Derived.RangeFuncLeaves
import Derived.Shelf.Abstract
import Derived.OwnWalkIn
import Derived.TacticsInMore
import Derived.LoopNIn
import Derived.LoopIn
import Derived.Stop.RegionWithIn
import Derived.Laws.AppendOwn
import Derived.Test.YtlpgjdlkjahdgaaGreatDoorRwR
import Derived.DeepKeys4
import Derived.Test.YtlpgjdlkjahdgaaGreatDoorDrP
import Derived.Sort.CutIn
import Derived.ControlIn
namespace Go
open Go.RowKit
variable {F : Fence} {n : Nat} {P : Program}

def Deaf {β : Type} (R : Nat → Prop) (J : β → World → Prop) : Prop := ∀ s A C row, J s A → A.grownBy C row → (∀ r, row = some r → R r) → J s C
theorem Deaf.none {β : Type} {R : Nat → Prop} {J : β → World → Prop} (h : Deaf R J) {s : β} {A C : World} (hs : J s A) (hg : A.grownBy C none) : J s C := h s A C Option.none hs hg (fun _ e => by cases e)
theorem Deaf.put {β : Type} {R : Nat → Prop} {J : β → World → Prop} (h : Deaf R J) {s : β} {A : World} (hs : J s A) {l : Nat} (o : Obj) (hl : R l) : J s (A.putObj l o) :=
 h s A _ (some l) hs (grownBy_putObj' A l o) (fun r e => by cases e; exact hl)
theorem Deaf.alloc {β : Type} {R : Nat → Prop} {J : β → World → Prop} (h : Deaf R J) {s : β} {A : World} (hs : J s A) (o : Obj) : J s (A.alloc o) := h.none hs (World.grownBy_alloc A o Option.none)
theorem Deaf.and {β : Type} {R : Nat → Prop} {I J : β → World → Prop} (h : Deaf R I) (k : Deaf R J) : Deaf R (fun s W => I s W ∧ J s W) := fun s A C row hs hg hr => ⟨h s A C row hs.1 hg hr, k s A C row hs.2 hg hr⟩
end Go
namespace Go.Dr
end Go.Dr
namespace Go.Proofs.YtlpgjdlkjahdgaaGreatDoor
open Go.RowKit Go.Mem Go.Shelf
attribute [local go_sem] Oper.semAt_some

end Go.Proofs.YtlpgjdlkjahdgaaGreatDoor
namespace Go.Dr
end Go.Dr
namespace Go
end Go
namespace Go.Proofs.YtlpgjdlkjahdgaaGreatDoor
open Go.RowKit Go.Mem Go.Shelf
attribute [local go_sem] Oper.semAt_some

def nv (l : List Nat) : List Value := l.map fun (x : Nat) => .int .i64 (x : Int)
end Go.Proofs.YtlpgjdlkjahdgaaGreatDoor
namespace Go.Dr
end Go.Dr
namespace Go.Proofs.YtlpgjdlkjahdgaaGreatDoor
open Go.RowKit Go.Mem
open Go.Dr (Lst Rt)
end Go.Proofs.YtlpgjdlkjahdgaaGreatDoor
namespace Go.Dr
theorem hasL_at (dev : Int) (l : List Lst) : hasL dev l = match l[posL dev l]? with | some y => decide (y.dev = dev) | none => false := rfl
end Go.Dr
namespace Go.Proofs.YtlpgjdlkjahdgaaGreatDoor
open Go.RowKit Go.Mem
open Go.Dr (Lst Rt)

theorem cmp_lt {x y : Int} : Lib.compareInt x y < 0 ↔ x < y := by
 unfold Lib.compareInt; split
 · simp [*]
 · split <;> simp <;> omega
theorem cmp_eq {x y : Int} : (Lib.compareInt x y == 0) = decide (x = y) := by
 unfold Lib.compareInt
 split
 · rw [decide_eq_false (by omega)]; rfl
 · split
   · rw [decide_eq_false (by omega)]; rfl
   · rw [decide_eq_true (by omega)]; rfl


set_option maxHeartbeats 400000 in
theorem private_any (x : Int) (w : World) : Calls Tryz.prog 162 #[.int .i64 x] w (fun e w' => e = .returned (.bool (keyOk x)) ∧ w' = w) := by
 go_enter Tryz.func162, Tryz.ntmps162
 by_cases h1 : 1 ≤ x <;> by_cases h2 : x < 2305843009213688669
 all_goals
  go_wp2_with fail
  go_returns
  exact ⟨by simp [keyOk, h1, h2], rfl⟩

set_option maxHeartbeats 400000 in
theorem set1_any (x : Lst) (k : Int) (r : List Value) (hr : r = gC x) (w : World) :
 Calls Tryz.prog 167 #[.agg r.toArray, .int .i64 k] w (RetI (Lib.compareInt x.dev k) w) := by
 subst hr
 have hc := Lib.hid (fun W => Tryz.cmp_Compare_int x.dev k W)
 obtain ⟨W, hW⟩ : ∃ W, Hid (w.alloc (.cells (gC x).toArray 118) = W) := ⟨_, rfl⟩
 have c0 : W.cell? ⟨w.heap.size, 0, none⟩ = some (.int .i64 x.dev) := by rw [← hW.out]; exact (Blk.new w _ (gC x)).at_ (i := 0) rfl
 have hb : Hid (Below w.heap.size w W) := by rw [← hW.out]; exact (Below.refl _ w).alloc (Nat.le_refl _) _
 go_enter Tryz.func167, Tryz.ntmps167
 go_upto_region 1 with fail
 rw [hW.out]
 clear hW
 go_wp2_with fail
 refine (hc.out _).mono ?_
 rintro e w1 ⟨rfl, rfl⟩
 go_wp2_with fail
 go_returns
 exact ⟨rfl, hb.out⟩
set_option maxRecDepth 20000 in
set_option maxHeartbeats 1000000 in
theorem bsfG_any (K : Nat → Prop) (a : Option Addr) (n c : Nat) (l : List Lst) (key : Int) (w : World) (H : GS K w a n c l) (hn : n ≤ 100000) (hs : Go.Dr.chkL l = true) :
 Calls Tryz.prog 166 #[.slice a n c, .int .i64 key, .func (.func 167) #[] #[]] w fun e w' => e = .returned (.tuple #[.int .i64 (Go.Dr.posL key l), .bool (Go.Dr.hasL key l)]) ∧ Below w.heap.size w w' := by
 have hle := RS.le H
 have hmx := RS.max H
 have hlen := RS.len H
 have hc1 := Lib.hid (fun x W => set1_any x key (gC x) rfl W)
 have H' := Lib.hid H
 go_enter Tryz.func166, Tryz.ntmps166
 go_wp2
 go_loopw [9, 10] (fun iv jv wr => ∃ (i j : Nat), i ≤ j ∧ j ≤ n ∧ iv = .int .i64 i ∧ jv = .int .i64 j ∧ (∀ p t, p < i → l[p]? = some t → t.dev < key) ∧ (∀ p t, j ≤ p → l[p]? = some t → key ≤ t.dev) ∧ Below w.heap.size w wr)
  (fun i j _ => (intOf j - intOf i).toNat)
 case atStart => exact ⟨0, n, Nat.zero_le _, Nat.le_refl _, rfl, rfl, fun p t hp => absurd hp (by omega), fun p t hp ht => absurd (List.getElem?_eq_some_iff.1 ht).1 (by omega), Below.refl _ _⟩
 case round =>
  obtain ⟨i, j, hij, hjn, rfl, rfl, hlo, hhi, hb⟩ := hrel
  by_cases hlt : i < j
  · have hlt' : (i : Int) < (j : Int) := by omega
    have hm1 : (i + j) / 2 < n := by omega
    have hm2 : i ≤ (i + j) / 2 ∧ (i + j) / 2 < j := by omega
    have hkl : (i + j) / 2 < l.length := by omega
    have hget : l[(i + j) / 2]? = some l[(i + j) / 2] := List.getElem?_eq_getElem hkl
    obtain ⟨b, off, rfl, hbs, _, _, hrg⟩ := GS.cells H hget
    generalize l[(i + j) / 2] = t at *
    have c0 : wr.cell? ⟨b, off + ((i + j) / 2) * 5, none⟩ = some (.int .i64 t.dev) := (hb.cell (p := ⟨b, _, none⟩) hbs).trans (by simpa using hrg 0 _ rfl)
    have c1 : wr.cell? ⟨b, off + ((i + j) / 2) * 5 + 1, none⟩ = some (.int .i64 t.ver) := (hb.cell (p := ⟨b, _, none⟩) hbs).trans (by exact hrg 1 _ rfl)
    have c2 : wr.cell? ⟨b, off + ((i + j) / 2) * 5 + 2, none⟩ = some (.int .i64 t.leaf) := (hb.cell (p := ⟨b, _, none⟩) hbs).trans (by exact hrg 2 _ rfl)
    have c3 : wr.cell? ⟨b, off + ((i + j) / 2) * 5 + 3, none⟩ = some (.int .i64 t.vers) := (hb.cell (p := ⟨b, _, none⟩) hbs).trans (by exact hrg 3 _ rfl)
    have c4 : wr.cell? ⟨b, off + ((i + j) / 2) * 5 + 4, none⟩ = some (.bool t.gone) := (hb.cell (p := ⟨b, _, none⟩) hbs).trans (by exact hrg 4 _ rfl)
    clear hrg
    have hi1 : ((i : Int) + (j : Int)) / 2 < (n : Int) := by omega
    have hi2 : (0 : Int) ≤ ((i : Int) + (j : Int)) / 2 := by omega
    have hi3 : (((i : Int) + (j : Int)) / 2).toNat = (i + j) / 2 := by omega
    by_cases hk : t.dev < key
    · have hcm : Lib.compareInt t.dev key < 0 := cmp_lt.2 hk
      have hlo' : Hid (∀ p u, p < (i + j) / 2 + 1 → l[p]? = some u → u.dev < key) := fun p u hp hu => by
       by_cases e : p = (i + j) / 2
       · subst e; rw [hget] at hu; cases hu; exact hk
       · exact Int.lt_trans (Go.Dr.chk_sorted hs (by omega) hu hget) hk
      have hhi' := Lib.hid hhi
      clear hlo hhi hget hkl
      go_wp2_with (refine (hc1.out _ _).mono ?_; rintro e w1 ⟨rfl, hb1⟩)
      go_roundw
      case rel => exact ⟨(i + j) / 2 + 1, j, by omega, hjn, by go_num, rfl, hlo'.out, hhi'.out, hb.trans (hb1.mono hb.size)⟩
      case measure => simp [intOf]; omega
    · have hcm : (Lib.compareInt t.dev key < 0) = False := by rw [eq_iff_iff, iff_false, cmp_lt]; exact hk
      have hhi' : Hid (∀ p u, (i + j) / 2 ≤ p → l[p]? = some u → key ≤ u.dev) := fun p u hp hu => by
       by_cases e : p = (i + j) / 2
       · subst e; rw [hget] at hu; cases hu; omega
       · have := Go.Dr.chk_sorted hs (show (i + j) / 2 < p by omega) hget hu; omega
      have hlo' := Lib.hid hlo
      clear hlo hhi hget hkl
      go_wp2_with (refine (hc1.out _ _).mono ?_; rintro e w1 ⟨rfl, hb1⟩)
      go_roundw
      case rel => exact ⟨i, (i + j) / 2, by omega, by omega, rfl, by go_num, hlo'.out, hhi'.out, hb.trans (hb1.mono hb.size)⟩
      case measure => simp [intOf]; omega
  · obtain rfl : i = j := by omega
    have hpos : Go.Dr.posL key l = i := Go.Dr.posL_eq (by omega) hlo (fun x hx => hhi i x (Nat.le_refl _) hx)
    by_cases hin : i < n
    · have hkl : i < l.length := by omega
      have hget : l[i]? = some l[i] := List.getElem?_eq_getElem hkl
      obtain ⟨b, off, rfl, hbs, _, _, hrg⟩ := GS.cells H hget
      generalize l[i] = t at *
      have c0 : wr.cell? ⟨b, off + i * 5, none⟩ = some (.int .i64 t.dev) := (hb.cell (p := ⟨b, _, none⟩) hbs).trans (by simpa using hrg 0 _ rfl)
      have c1 : wr.cell? ⟨b, off + i * 5 + 1, none⟩ = some (.int .i64 t.ver) := (hb.cell (p := ⟨b, _, none⟩) hbs).trans (by exact hrg 1 _ rfl)
      have c2 : wr.cell? ⟨b, off + i * 5 + 2, none⟩ = some (.int .i64 t.leaf) := (hb.cell (p := ⟨b, _, none⟩) hbs).trans (by exact hrg 2 _ rfl)
      have c3 : wr.cell? ⟨b, off + i * 5 + 3, none⟩ = some (.int .i64 t.vers) := (hb.cell (p := ⟨b, _, none⟩) hbs).trans (by exact hrg 3 _ rfl)
      have c4 : wr.cell? ⟨b, off + i * 5 + 4, none⟩ = some (.bool t.gone) := (hb.cell (p := ⟨b, _, none⟩) hbs).trans (by exact hrg 4 _ rfl)
      clear hrg
      have hfin : Hid (Ending.returned (.tuple #[.int .i64 i, .bool (Lib.compareInt t.dev key == 0)]) = .returned (.tuple #[.int .i64 (Go.Dr.posL key l), .bool (Go.Dr.hasL key l)])) := by
       rw [cmp_eq, Go.Dr.hasL_at, hpos, hget]
       rfl
      have hin' : (i : Int) < (n : Int) := by omega
      clear hlo hhi hget hkl hpos
      go_wp2_with (refine (hc1.out _ _).mono ?_; rintro e w1 ⟨rfl, hb1⟩)
      go_ret2
      exact ⟨hfin.out, hb.trans (hb1.mono hb.size)⟩
    · obtain rfl : i = n := by omega
      have hfin : Hid (Ending.returned (.tuple #[.int .i64 i, .bool false]) = .returned (.tuple #[.int .i64 (Go.Dr.posL key l), .bool (Go.Dr.hasL key l)])) := by
       rw [Go.Dr.hasL_at, hpos, List.getElem?_eq_none (by omega)]
       rfl
      clear hlo hhi hpos
      go_wp2
      go_ret2
      exact ⟨hfin.out, hb⟩

end Go.Proofs.YtlpgjdlkjahdgaaGreatDoor
namespace Go.Proofs.YtlpgjdlkjahdgaaGreatDoor
open Go.RowKit Go.Mem
open Go.Dr (Lst Rt)

theorem mapM_some {α β : Type} {f : α → Option β} {g : α → β} : ∀ {l : List α}, (∀ x ∈ l, f x = some (g x)) → l.mapM f = some (l.map g)
 | [], _ => by simp
 | x :: r, h => by
  rw [List.mapM_cons, h x (by simp), mapM_some (fun y hy => h y (by simp [hy]))]
  rfl
theorem flat_range (g : Nat → Lit) (d : List Nat) : ∀ n, n ≤ d.length → ((List.range n).map fun i => [g (d.getD i 0)]).flatten = (d.take n).map g
 | 0, _ => by simp
 | n + 1, h => by
  rw [List.range_succ, List.map_append, List.flatten_append, flat_range g d n (by omega), List.take_add_one, List.map_append]
  have hn : n < d.length := by omega
  simp [List.getD, List.getElem?_eq_getElem hn]

theorem cells35 : Tryz.prog.cellsOf 43 = 32 := by kernel_rfl
theorem cells5 : Tryz.prog.cellsOf 5 = 1 := by kernel_rfl
theorem under35 : Tryz.prog.underlying 43 = some (.array 32 5) := Tryz.underlying43
theorem keyT35 : Tryz.prog.keyTypeAt 2 43 = true := by kernel_rfl
def digL (d : List Nat) : List Lit := d.map fun (x : Nat) => Lit.int .u8 (x : Int)
theorem digL_inj {x y : List Nat} (h : digL x = digL y) : x = y := by
 refine (List.map_inj_right ?_).1 h
 intro a b hab
 simp only [Lit.int.injEq, true_and] at hab
 omega
def Dig (d : List Nat) : Prop := d.length = 32 ∧ ∀ u ∈ d, u < 256

theorem u8_wf : ∀ x : Nat, x < 256 → (Lit.int .u8 (x : Int)).wf = true := by decide +kernel

theorem keyLits_dig (D : Nat) {d : List Nat} (h : Dig d) : Tryz.prog.keyLits (D + 2) 43 (bv d) = some (digL d) := by
 unfold Program.keyLits
 rw [under35]
 simp only [cells35, cells5, bv_length, h.1, if_true]
 rw [mapM_some (g := fun i => [Lit.int .u8 ((d.getD i 0 : Nat) : Int)])]
 · have := flat_range (fun (x : Nat) => Lit.int .u8 (x : Int)) d 32 (by rw [h.1]; exact Nat.le_refl _)
   rw [Option.map_some, this, List.take_of_length_le (by rw [h.1]; exact Nat.le_refl _)]
   rfl
 · intro i hi
   have hil : i < d.length := by rw [h.1]; simpa using hi
   have e1 : ((bv d).drop (i * 1)).take 1 = [.int .u8 ((d.getD i 0 : Nat) : Int)] := by
    rw [Nat.mul_one, List.drop_eq_getElem_cons (by rw [bv_length]; exact hil), List.take_succ_cons, List.take_zero]
    simp [bv, List.getD, List.getElem?_eq_getElem hil]
   rw [e1]
   unfold Program.keyLits
   rw [Tryz.underlying5]
   have hx : d.getD i 0 < 256 := by
    rw [List.getD, List.getElem?_eq_getElem hil]
    exact h.2 _ (List.getElem_mem hil)
   generalize d.getD i 0 = x at *
   have hw : (Lit.int .u8 (x : Int)).wf = true := u8_wf x hx
   simp [hw]

theorem formed_dig {d : List Nat} (h : Dig d) : (Value.agg (bv d).toArray).formed Tryz.prog 43 = true := by
 simp [Value.formed, bv_length, h.1, cells35]

theorem eq_dig {x y : List Nat} (hx : Dig x) (hy : Dig y) (w : World) : (Op.equalIn 10000 43 (.agg (bv x).toArray) (.agg (bv y).toArray)).run Tryz.prog w = .ok (decide (x = y)) w := by
 obtain ⟨r, hr, hiff⟩ := run_equalIn_deep (P := Tryz.prog) 9998 2 43 keyT35 w 2 2 (.agg (bv x).toArray) (.agg (bv y).toArray) (digL x) (digL y) (formed_dig hx) (formed_dig hy)
  (by simpa [Value.cells] using keyLits_dig 0 hx) (by simpa [Value.cells] using keyLits_dig 0 hy)
 have e : r = decide (x = y) := by
  rw [Bool.eq_iff_iff, hiff, decide_eq_true_iff]
  exact ⟨digL_inj, fun e => by rw [e]⟩
 rw [← e]
 exact hr

theorem cellsSg : Tryz.prog.cellsOf 45 = 2 := by kernel_rfl
theorem cellsI : Tryz.prog.cellsOf 3 = 1 := by kernel_rfl
theorem i64_wf {x : Int} (h : I64 x) : (Lit.int .i64 x).wf = true := by
 have e1 : IntKind.i64.min = -9223372036854775808 := rfl
 have e2 : IntKind.i64.max = 9223372036854775807 := rfl
 unfold I64 at h
 simp only [Lit.wf, Bool.and_eq_true, decide_eq_true_eq]
 omega
theorem keyLits_int (D : Nat) {x : Int} (h : I64 x) : Tryz.prog.keyLits (D + 1) 3 [.int .i64 x] = some [.int .i64 x] := by
 unfold Program.keyLits
 rw [Tryz.underlying3]
 simp [i64_wf h]
theorem keyLits_sig (D : Nat) {r s : Int} (hr : I64 r) (hs : I64 s) : Tryz.prog.keyLits (D + 2) 45 [.int .i64 r, .int .i64 s] = some [.int .i64 r, .int .i64 s] := by
 unfold Program.keyLits
 rw [Tryz.underlying45]
 simp only [cellsSg, List.length_cons, List.length_nil]
 simp [cellsI, keyLits_int D hr, keyLits_int D hs]

theorem cellsRt : Tryz.prog.cellsOf 62 = 67 := by kernel_rfl
theorem keyTR : Tryz.prog.keyTypeAt 3 62 = true := by kernel_rfl
def litR (x : Rt) : List Lit := [.int .i64 x.no] ++ (digL x.dig ++ (digL x.prev ++ [.int .i64 x.r, .int .i64 x.s]))
theorem rC_parts {x : Rt} (ok : OkQ x) : ((rC x).drop 0).take 1 = [.int .i64 x.no] ∧ ((rC x).drop 1).take 32 = bv x.dig ∧ ((rC x).drop 33).take 32 = bv x.prev ∧ ((rC x).drop 65).take 2 = [.int .i64 x.r, .int .i64 x.s] := by
 have hl : (bv x.dig).length = 32 := by rw [bv_length, ok.dig]
 have hl2 : (bv x.prev).length = 32 := by rw [bv_length, ok.prev]
 unfold rC
 refine ⟨rfl, ?_, ?_, ?_⟩
 · show List.take 32 (bv x.dig ++ (bv x.prev ++ [.int .i64 x.r, .int .i64 x.s])) = _
   rw [List.take_append_of_le_length (by omega), List.take_of_length_le (by omega)]
 · show List.take 32 (List.drop 32 (bv x.dig ++ (bv x.prev ++ [.int .i64 x.r, .int .i64 x.s]))) = _
   rw [List.drop_append_of_le_length (by omega), List.drop_of_length_le (by omega), List.nil_append, List.take_append_of_le_length (by omega), List.take_of_length_le (by omega)]
 · show List.take 2 (List.drop 64 (bv x.dig ++ (bv x.prev ++ [.int .i64 x.r, .int .i64 x.s]))) = _
   rw [← List.append_assoc, List.drop_left' (by rw [List.length_append]; omega)]
   rfl
theorem keyLits_rt (D : Nat) {x : Rt} (ok : OkQ x) : Tryz.prog.keyLits (D + 3) 62 (rC x) = some (litR x) := by
 obtain ⟨p0, p1, p2, p3⟩ := rC_parts ok
 have q0 := keyLits_int (D + 1) ok.no
 have q1 := keyLits_dig D ⟨ok.dig, ok.digl⟩
 have q2 := keyLits_dig D ⟨ok.prev, ok.prevl⟩
 have q3 := keyLits_sig D ok.r ok.s
 unfold Program.keyLits
 rw [Tryz.underlying62]
 have hlen : (rC x).length = Tryz.prog.cellsOf 62 := by rw [rC_length ok, cellsRt]
 obtain ⟨cs, hcs⟩ : ∃ cs, cs = rC x := ⟨_, rfl⟩
 rw [← hcs] at p0 p1 p2 p3 hlen ⊢
 match cs, hlen with
 | [], hl => rw [cellsRt] at hl; cases hl
 | c :: r, hl =>
  simp only [hl]
  rw [if_pos ⟨trivial, by kernel_rfl⟩]
  simp only [List.mapM_cons, List.mapM_nil, cellsI, cells35, cellsSg, p0, p1, p2, p3, q0, q1, q2, q3]
  rfl
theorem litR_inj {a b : Rt} (ha : OkQ a) (hb : OkQ b) (e : litR a = litR b) : a = b := by
 unfold litR at e
 simp only [List.cons_append, List.nil_append, List.cons.injEq, Lit.int.injEq, true_and] at e
 obtain ⟨e0, e1⟩ := e
 have hl : (digL a.dig).length = (digL b.dig).length := by simp [digL, ha.dig, hb.dig]
 have hl2 : (digL a.prev).length = (digL b.prev).length := by simp [digL, ha.prev, hb.prev]
 obtain ⟨e2, e3⟩ := List.append_inj e1 hl
 obtain ⟨e4, e5⟩ := List.append_inj e3 hl2
 simp only [List.cons.injEq, Lit.int.injEq, true_and, and_true] at e5
 exact Go.Dr.eqR_iff.1 (by unfold Go.Dr.eqR; exact decide_eq_true ⟨e0, digL_inj e2, digL_inj e4, e5.1, e5.2⟩)
theorem formed_rt {x : Rt} (ok : OkQ x) : (Value.agg (rC x).toArray).formed Tryz.prog 62 = true := by
 simp [Value.formed, rC_length ok, cellsRt]
theorem eq_root {a b : Rt} (ha : OkQ a) (hb : OkQ b) (w : World) : (Op.equalIn 10000 62 (.agg (rC a).toArray) (.agg (rC b).toArray)).run Tryz.prog w = .ok (Go.Dr.eqR a b) w := by
 obtain ⟨r, hr, hiff⟩ := run_equalIn_deep (P := Tryz.prog) 9997 3 62 keyTR w 3 3 (.agg (rC a).toArray) (.agg (rC b).toArray) (litR a) (litR b) (formed_rt ha) (formed_rt hb)
  (by simpa [Value.cells] using keyLits_rt 0 ha) (by simpa [Value.cells] using keyLits_rt 0 hb)
 have e : r = Go.Dr.eqR a b := by
  rw [Bool.eq_iff_iff, hiff, Go.Dr.eqR_iff]
  exact ⟨litR_inj ha hb, fun e => by rw [e]⟩
 rw [← e]
 exact hr
end Go.Proofs.YtlpgjdlkjahdgaaGreatDoor
namespace Go.Dr
/-! ### one path that proves two things -/
/-! ### a change -/
theorem proves {l : List Lst} {dev : Int} (h : 0 ≤ dev ∧ dev < 512) {x : Lst} {listed : Bool} (hx : (ofL l dev = some x ∧ listed = true) ∨ (ofL l dev = none ∧ x.dev = dev ∧ listed = false)) :
 verP (rootD l) x (!listed) (pathD l dev) = true := by
 rcases hx with ⟨h1, rfl⟩ | ⟨h1, h2, rfl⟩
 · obtain ⟨h3, h4⟩ := leaf_some h1
   subst h3
   exact verP_path h h4
 · subst h2
   exact verP_path h (leaf_none h1)
theorem change {l : List Lst} {x : Lst} (hx : 0 ≤ x.dev ∧ x.dev < 512) : verP (rootD (insL x l)) x false (pathD (insL x l) x.dev) = true := by
 have := proves (l := insL x l) (dev := x.dev) hx (x := x) (listed := true) (.inl ⟨by rw [ofL_ins, if_pos rfl], rfl⟩)
 exact this
end Go.Dr
namespace Go.Dj
variable {P : Program} {F : Fence} {n : Nat}
end Go.Dj
namespace Go.Proofs.YtlpgjdlkjahdgaaGreatDoor
open Go.RowKit Go.Mem Go.Shelf
open Go.Dr (Lst Rt)
attribute [local go_sem] Oper.semAt_some

structure Kp (w w' : World) : Prop where
 size : w.heap.size ≤ w'.heap.size
 block : ∀ i, i < w.heap.size → w'.heap[i]? = w.heap[i]?
section
variable {w w' w2 : World}
theorem Kp.refl (w : World) : Kp w w := ⟨Nat.le_refl _, fun _ _ => rfl⟩
theorem Kp.trans (h : Kp w w') (k : Kp w' w2) : Kp w w2 := ⟨Nat.le_trans h.size k.size, fun i hi => (k.block i (Nat.lt_of_lt_of_le hi h.size)).trans (h.block i hi)⟩
theorem Kp.of (h : Below w.heap.size w w') : Kp w w' := ⟨h.size, h.block⟩
theorem Kp.below (h : Kp w w') : Below w.heap.size w { w' with os := w.os, tape := w.tape, output := w.output } := ⟨rfl, rfl, rfl, h.size, h.block⟩
theorem Kp.cell (h : Kp w w') {p : Addr} (hb : p.block < w.heap.size) : w'.cell? p = w.cell? p := World.cell?_of_block (h.block p.block hb)
theorem Kp.grown {row : Option Nat} (h : Kp w w') (hg : w'.grownBy w2 row) (hr : ∀ r, row = some r → w.heap.size ≤ r) : Kp w w2 := ⟨Nat.le_trans h.size hg.size, fun i hi => (hg.block i (Nat.lt_of_lt_of_le hi h.size) (fun e => by have := hr i e.symm; omega)).trans (h.block i hi)⟩
end

end Go.Proofs.YtlpgjdlkjahdgaaGreatDoor
namespace Go.Proofs.YtlpgjdlkjahdgaaGreatDoor
open Go.RowKit Go.Mem
open Go.Dr (Lst Rt Dir)

def dirC (p : Int) (la : Option Addr) (ln lc : Nat) (ra : Option Addr) (rn rc : Nat) : List Value := [.int .i64 p, .slice la ln lc, .slice ra rn rc]
theorem sizeDr : (Tryz.prog.info? 113).map (·.size) = some 3 := by kernel_rfl
def NewPost (k : Int) (w : World) (e : Ending) (w' : World) : Prop := e = .returned (.tuple #[.agg (dirC (Go.Dr.newD k).1.priv none 0 0 none 0 0).toArray, .int .i64 (Go.Dr.newD k).2]) ∧ Below w.heap.size w w'
set_option maxHeartbeats 1000000 in
theorem dnew_any (k : Int) (w : World) : Calls Tryz.prog 127 #[.int .i64 k] w (NewPost k w) := by
 have hp := Lib.hid (private_any k)
 have hf : Hid (∀ W, Below w.heap.size w W → keyOk k = true → NewPost k w (.returned (.tuple #[.agg #[.int .i64 k, .slice none 0 0, .slice none 0 0], .int .i64 0])) W) := fun W h1 h2 => by
  refine ⟨?_, h1⟩; unfold Go.Dr.newD; rw [if_pos h2]; rfl
 have hf2 : Hid (∀ W, Below w.heap.size w W → keyOk k = false → NewPost k w (.returned (.tuple #[.agg #[.int .i64 0, .slice none 0 0, .slice none 0 0], .int .i64 50])) W) := fun W h1 h2 => by
  refine ⟨?_, h1⟩; unfold Go.Dr.newD; rw [if_neg (by rw [h2]; simp)]; rfl
 obtain ⟨X, hX⟩ : ∃ X, X = NewPost k w := ⟨_, rfl⟩
 rw [← hX] at hf hf2 ⊢
 clear hX
 cases hk : keyOk k with
 | true =>
  have hf3 := Lib.hid (fun W h => hf.out W h hk)
  rw [hk] at hp
  clear hf hf2
  go_enter Tryz.func127, Tryz.ntmps127
  go_wp2_with fail
  refine (hp.out _).mono ?_
  rintro e w1 ⟨rfl, rfl⟩
  go_wp2_with fail
  exact ret_cell_tmp (p := 2) (u := 3) rfl (Blk.new w 113 (dirC k none 0 0 none 0 0)) Tryz.underlying113 rfl sizeDr rfl rfl rfl (hf3.out _ ((Below.refl _ w).alloc (Nat.le_refl _) _))
 | false =>
  have hf3 := Lib.hid (fun W h => hf2.out W h hk)
  rw [hk] at hp
  clear hf hf2
  go_enter Tryz.func127, Tryz.ntmps127
  go_wp2_with fail
  refine (hp.out _).mono ?_
  rintro e w1 ⟨rfl, rfl⟩
  go_wp2_with fail
  exact ret_cell_tmp (p := 2) (u := 3) rfl (Blk.new w 113 (dirC 0 none 0 0 none 0 0)) Tryz.underlying113 rfl sizeDr rfl rfl rfl (hf3.out _ ((Below.refl _ w).alloc (Nat.le_refl _) _))

def SdW (w : World) (tb : Nat) (x : Rt) (wz : World) : Prop := Blk wz tb 62 (rC x) ∧ tb < wz.heap.size ∧ Below w.heap.size w wz
section
variable {w wz wq : World} {tb : Nat} {x : Rt}
theorem SdW.drew (h : SdW w tb x wz) : SdW w tb x wz.drew := ⟨h.1, h.2.1, h.2.2.drew⟩
theorem SdW.drewN (h : SdW w tb x wz) (m : Nat) : SdW w tb x (wz.drewN m) := ⟨h.1.drewN m, h.2.1, h.2.2.trans (below_drewN _ _ _)⟩
theorem SdW.next (hb : Below wz.heap.size wz wq) (h : SdW w tb x wz) : SdW w tb x wq := ⟨h.1.below hb h.2.1, Nat.lt_of_lt_of_le h.2.1 hb.size, h.2.2.trans (hb.mono h.2.2.size)⟩
end

set_option maxRecDepth 20000 in
set_option maxHeartbeats 8000000 in
theorem signed_any (pub : Int) (hp : I64 pub) (x : Rt) (hx : OkQ x) (w : World) (HT : Tabs w) :
 Calls Tryz.prog 130 #[.int .i64 pub, .agg (rC x).toArray] w (RetBo (Go.Dr.signedB 4 pub x) w) := by
 have HT' := Lib.hid HT; have hx' := Lib.hid hx; have hp' := Lib.hid hp
 clear HT
 obtain ⟨tb, htb⟩ : ∃ tb, Hid (w.heap.size = tb) := ⟨_, rfl⟩
 have z0 : (Tryz.prog.info? 62).map (·.size) = some (rC x).length := by rw [rC_length hx]; exact sizeR
 have hml : Hid ((Go.Dr.msgR x).length = 72) := by show _ = _; unfold Go.Dr.msgR Go.Dr.num8; simp [hx.dig, hx.prev, Sha.be_length]
 go_enter Tryz.func130, Tryz.ntmps130
 go_upto_region 1 with fail
 rw [htb.out]
 generalize hW : World.alloc _ _ = W
 have hM : SdW w tb x W := by
  rw [← hW, ← htb.out]
  exact ⟨Blk.new w _ (rC x), by simp, (Below.refl _ w).alloc (Nat.le_refl _) _⟩
 clear hW hx hp
 obtain ⟨V, hV⟩ : ∃ V, Hid (verB 4 pub (Go.Dr.msgR x) x.r x.s = V) := ⟨_, rfl⟩
 have hms := Lib.hid (fun W => message_any x hx'.out W)
 have c0q : Hid (∀ wz, SdW w tb x wz → wz.cell? ⟨tb, 0, none⟩ = some (.int .i64 x.no)) := fun wz h => h.1.at_ (i := 0) rfl
 by_cases h1 : 1 ≤ x.no
 · have h1' : decide (1 ≤ x.no) = true := by simpa using h1
   by_cases h2 : x.no ≤ 65536
   · have h2' : decide (x.no ≤ 65536) = true := by simpa using h2
     have hv : Hid (Go.Dr.signedB 4 pub x = V) := by show _ = _; unfold Go.Dr.signedB; rw [decide_eq_true ⟨h1, h2⟩, hV.out]; rfl
     refine wp_region_held_drew (S := fun wz => SdW w tb x wz) (by kernel_rfl) (hM.drew) (fun hHeld => ?_)
     generalize W.drew = W0 at *
     refine tQ 0 rfl hHeld ?_
     refine tX 1 rfl (fun wz hSw => c0q.out wz hSw) hHeld ?_
     refine tQ 2 rfl hHeld ?_
     refine tQ 3 rfl hHeld ?_
     refine tQ 4 rfl hHeld ?_
     refine tX 5 rfl (fun wz hSw => c0q.out wz hSw) hHeld ?_
     refine tQ 6 rfl hHeld ?_
     refine tQ 7 rfl hHeld ?_
     refine tQ 8 rfl hHeld ?_
     refine tQ 9 rfl hHeld ?_
     refine tY 10 rfl tb 0 (rC x) (fun wz h => h.1.range) Tryz.underlying62 z0 hHeld ?_
     refine tQ 15 rfl hHeld ?_
     refine tX 16 rfl (fun wz hSw => And.intro (hSw.1.at_ (rC_r hx'.out)) (hSw.1.at_ (rC_s hx'.out))) hHeld ?_
     refine tO 11 rfl (fun K hK => ?_)
     go_simp
     go_at_call 171
     refine (hms.out W0).mono ?_
     rintro e W1 ⟨b, rfl, hbW, I1, hst⟩
     refine hK.out _ _ (hHeld.next hst) (fun hHeld2 => ?_)
     clear hHeld
     have hHeld := hHeld2
     clear hHeld2
     clear hK K
     try simp only [Act.put, sA, s0, s1]
     refine tQ 12 rfl hHeld ?_
     refine tQ 13 rfl hHeld ?_
     refine tO 14 rfl (fun K hK => ?_)
     go_simp
     go_at_call 172
     refine (bytesOf_any _ b _ W1 I1).mono ?_
     rintro e W2 ⟨a2, c2, rfl, hS2, m, rfl⟩
     have hS3 := Lib.hid hS2
     refine hK.out _ _ (hHeld.drewN m) (fun hHeld2 => ?_)
     clear hHeld hS2
     have hHeld := hHeld2
     clear hHeld2
     generalize W1.drewN m = W3 at *
     rw [hml.out]
     clear hK K
     try simp only [Act.put, sA, s0, s1]
     refine tO 17 rfl (fun K hK => ?_)
     go_simp
     go_at_call 75
     refine (Verify_any pub x.r x.s hp'.out hx'.out.r a2 72 c2 (Go.Dr.msgR x) W3 (HT'.out.below hHeld.2.2) (by have := hS3.out; rwa [hml.out] at this) (by omega)).mono ?_
     rintro e W4 ⟨rfl, hst2⟩
     refine hK.out _ _ (hHeld.next hst2) (fun hHeld2 => ?_)
     clear hHeld
     have hHeld := hHeld2
     clear hHeld2
     rw [hV.out]
     clear hK K
     try simp only [Act.put, sA, s0, s1]
     refine tQ 18 rfl hHeld ?_
     refine tQ 19 rfl hHeld ?_
     refine wpAnyH_done (by kernel_rfl) ?_ _
     go_wp2_with fail
     go_ret
     exact ⟨by rw [hv.out]; rfl, hHeld.2.2⟩
   · have h2' : decide (x.no ≤ 65536) = false := by simpa using h2
     have hv : Hid (Go.Dr.signedB 4 pub x = false) := by show _ = _; unfold Go.Dr.signedB; rw [decide_eq_false (fun h => h2 h.2)]; rfl
     refine wp_region_held_drew (S := fun wz => SdW w tb x wz) (by kernel_rfl) (hM.drew) (fun hHeld => ?_)
     generalize W.drew = W0 at *
     refine tQ 0 rfl hHeld ?_
     refine tX 1 rfl (fun wz hSw => c0q.out wz hSw) hHeld ?_
     refine tQ 2 rfl hHeld ?_
     refine tQ 3 rfl hHeld ?_
     refine tQ 4 rfl hHeld ?_
     refine tX 5 rfl (fun wz hSw => c0q.out wz hSw) hHeld ?_
     refine tQ 6 rfl hHeld ?_
     refine tQ 7 rfl hHeld ?_
     refine tQ 8 rfl hHeld ?_
     refine tS 9 rfl hHeld ?_
     refine tS 10 rfl hHeld ?_
     refine tS 15 rfl hHeld ?_
     refine tS 16 rfl hHeld ?_
     refine Go.rd (rs := [11]) ?_
     refine AllReadyH.cons (o := ⟨some 16, .call { callee := .value (.func 171), args := #[.tmp 15], argTypes := #[62] }, 200, "directory.go:209", #[⟨10, .data⟩, ⟨8, .chain⟩, ⟨8, .guard⟩], some (8, true)⟩) rfl (fun K hK => ?_) AllReadyH.nil
     rw [if_neg (Bool.eq_false_iff.1 (by rfl))]
     refine hK.out _ _ hHeld (fun hHeld => ?_)
     clear hK K
     try simp only [Act.put, sA, s0, s1]
     refine tS 12 rfl hHeld ?_
     refine tS 13 rfl hHeld ?_
     refine Go.rd (rs := [14]) ?_
     refine AllReadyH.cons (o := ⟨some 19, .call { callee := .value (.func 172), args := #[.tmp 18], argTypes := #[206] }, 33, "directory.go:209", #[⟨13, .data⟩, ⟨11, .chain⟩, ⟨8, .guard⟩], some (8, true)⟩) rfl (fun K hK => ?_) AllReadyH.nil
     rw [if_neg (Bool.eq_false_iff.1 (by rfl))]
     refine hK.out _ _ hHeld (fun hHeld => ?_)
     clear hK K
     try simp only [Act.put, sA, s0, s1]
     refine Go.rd (rs := [17]) ?_
     refine AllReadyH.cons (o := ⟨some 22, .call { callee := .value (.func 75), args := #[.tmp 14, .tmp 19, .tmp 21], argTypes := #[3, 33, 45] }, 4, "directory.go:209", #[⟨9, .data⟩, ⟨14, .data⟩, ⟨16, .data⟩, ⟨14, .chain⟩, ⟨8, .guard⟩], some (8, true)⟩) rfl (fun K hK => ?_) AllReadyH.nil
     rw [if_neg (Bool.eq_false_iff.1 (by rfl))]
     refine hK.out _ _ hHeld (fun hHeld => ?_)
     clear hK K
     try simp only [Act.put, sA, s0, s1]
     refine tQ 18 rfl hHeld ?_
     refine tQ 19 rfl hHeld ?_
     refine wpAnyH_done (by kernel_rfl) ?_ _
     go_wp2_with fail
     go_ret
     exact ⟨by rw [hv.out]; rfl, hHeld.2.2⟩
 · have h1' : decide (1 ≤ x.no) = false := by simpa using h1
   have hv : Hid (Go.Dr.signedB 4 pub x = false) := by show _ = _; unfold Go.Dr.signedB; rw [decide_eq_false (fun h => h1 h.1)]; rfl
   refine wp_region_held_drew (S := fun wz => SdW w tb x wz) (by kernel_rfl) (hM.drew) (fun hHeld => ?_)
   generalize W.drew = W0 at *
   refine tQ 0 rfl hHeld ?_
   refine tX 1 rfl (fun wz hSw => c0q.out wz hSw) hHeld ?_
   refine tQ 2 rfl hHeld ?_
   refine tQ 3 rfl hHeld ?_
   refine tS 4 rfl hHeld ?_
   refine tS 5 rfl hHeld ?_
   refine tS 6 rfl hHeld ?_
   refine tQ 7 rfl hHeld ?_
   refine tQ 8 rfl hHeld ?_
   refine tS 9 rfl hHeld ?_
   refine tS 10 rfl hHeld ?_
   refine tS 15 rfl hHeld ?_
   refine tS 16 rfl hHeld ?_
   refine Go.rd (rs := [11]) ?_
   refine AllReadyH.cons (o := ⟨some 16, .call { callee := .value (.func 171), args := #[.tmp 15], argTypes := #[62] }, 200, "directory.go:209", #[⟨10, .data⟩, ⟨8, .chain⟩, ⟨8, .guard⟩], some (8, true)⟩) rfl (fun K hK => ?_) AllReadyH.nil
   rw [if_neg (Bool.eq_false_iff.1 (by rfl))]
   refine hK.out _ _ hHeld (fun hHeld => ?_)
   clear hK K
   try simp only [Act.put, sA, s0, s1]
   refine tS 12 rfl hHeld ?_
   refine tS 13 rfl hHeld ?_
   refine Go.rd (rs := [14]) ?_
   refine AllReadyH.cons (o := ⟨some 19, .call { callee := .value (.func 172), args := #[.tmp 18], argTypes := #[206] }, 33, "directory.go:209", #[⟨13, .data⟩, ⟨11, .chain⟩, ⟨8, .guard⟩], some (8, true)⟩) rfl (fun K hK => ?_) AllReadyH.nil
   rw [if_neg (Bool.eq_false_iff.1 (by rfl))]
   refine hK.out _ _ hHeld (fun hHeld => ?_)
   clear hK K
   try simp only [Act.put, sA, s0, s1]
   refine Go.rd (rs := [17]) ?_
   refine AllReadyH.cons (o := ⟨some 22, .call { callee := .value (.func 75), args := #[.tmp 14, .tmp 19, .tmp 21], argTypes := #[3, 33, 45] }, 4, "directory.go:209", #[⟨9, .data⟩, ⟨14, .data⟩, ⟨16, .data⟩, ⟨14, .chain⟩, ⟨8, .guard⟩], some (8, true)⟩) rfl (fun K hK => ?_) AllReadyH.nil
   rw [if_neg (Bool.eq_false_iff.1 (by rfl))]
   refine hK.out _ _ hHeld (fun hHeld => ?_)
   clear hK K
   try simp only [Act.put, sA, s0, s1]
   refine tQ 18 rfl hHeld ?_
   refine tQ 19 rfl hHeld ?_
   refine wpAnyH_done (by kernel_rfl) ?_ _
   go_wp2_with fail
   go_ret
   exact ⟨by rw [hv.out]; rfl, hHeld.2.2⟩
end Go.Proofs.YtlpgjdlkjahdgaaGreatDoor
namespace Go.Dj
end Go.Dj
namespace Go.Proofs.YtlpgjdlkjahdgaaGreatDoor
open Go.RowKit Go.Mem Go.Shelf
open Go.Dr (Lst Rt)
attribute [local go_sem] Oper.semAt_some

def VrW (w : World) (tb : Nat) (root : List Nat) (x : Lst) (wz : World) : Prop := Blk wz tb 43 (bv root) ∧ Blk wz (tb + 1) 118 (gC x) ∧ Blk wz (tb + 1 + 1) 4 [.bool false] ∧ Below w.heap.size w wz
section
variable {w wz wq : World} {tb : Nat} {root : List Nat} {x : Lst}
theorem VrW.drew (h : VrW w tb root x wz) : VrW w tb root x wz.drew := ⟨h.1, h.2.1, h.2.2.1, h.2.2.2.drew⟩
theorem VrW.next (h : VrW w tb root x wz) (hb : Below wz.heap.size wz wq) : VrW w tb root x wq := ⟨h.1.below hb h.1.lt, h.2.1.below hb h.2.1.lt, h.2.2.1.below hb h.2.2.1.lt, h.2.2.2.trans (hb.mono h.2.2.2.size)⟩
end

end Go.Proofs.YtlpgjdlkjahdgaaGreatDoor

