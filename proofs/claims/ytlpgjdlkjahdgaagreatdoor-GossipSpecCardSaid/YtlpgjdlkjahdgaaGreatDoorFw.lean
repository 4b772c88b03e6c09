/- the reference 36: New, Accept splits compared; what Accept tells is a split -/
import Derived.Test.YtlpgjdlkjahdgaaGreatDoorAl
import Derived.Test.YtlpgjdlkjahdgaaGreatDoorFt
import Derived.Test.YtlpgjdlkjahdgaaGreatDoorGp
import Derived.Test.YtlpgjdlkjahdgaaGreatDoorGb
import Derived.Test.YtlpgjdlkjahdgaaGreatDoorRa
namespace Go.Proofs.YtlpgjdlkjahdgaaGreatDoor
open Go.RowKit Go.Mem
open Go.Dr (Lst Rt Dir Wt)

theorem r36new_any (p : Int) (w : World) : Calls Tryz.prog 42 #[.int .i64 p] w (fun e w' => e = .returned (.agg (wtC p none 0 0).toArray) ∧ Below w.heap.size w w') := by
 go_enter Tryz.func42, Tryz.ntmps42
 go_wp2_with fail
 exact ret_cell (p := 2) rfl (Blk.new w 69 (wtC p none 0 0)) Tryz.underlying69 rfl sizeWt rfl rfl ⟨rfl, (Below.refl _ w).alloc (Nat.le_refl _) _⟩

theorem empty_roots (W : World) : (Instr.buildSlice 67 0 #[]).run Tryz.prog W = .ok (.slice (some ⟨W.heap.size, 0, none⟩) 0 0) (W.alloc (.cells #[] 62)) := by kernel_rfl
theorem own_newR (W : World) : (W.alloc (.cells #[] 62)).ownsRow W.heap.size 62 67 (.slice (some ⟨W.heap.size, 0, none⟩) 0 0) 0 [] :=
 ⟨rfl, Or.inr ⟨W.heap.size, 0, #[], rfl, Nat.le_refl _, heap_alloc_new W _, Nat.le_refl _, by unfold maxLen; omega, rfl, rfl⟩⟩
theorem append_rs {w : World} {B : Nat} {v : Value} {k : Nat} {xs : List Value} (hown : w.ownsRow B 62 67 v k xs) {a : Option Addr} {n c : Nat} {ys : List Value} (hc : ∀ b, a = some b → ∀ j u, ys[j]? = some u → w.cell? (b.add j) = some u) (hnil : a = none → n = 0) (hlen : ys.length = n * 67) (hone : ∀ u ∈ ys, u.oneCell' = true) (hn : k + n ≤ 1000000) (hB : B ≤ w.heap.size) :
 ∃ v' w', (∀ ty, (Builtin.append_ #[67, 67] ty #[v, .slice a n c]).run Tryz.prog w = .ok v' w') ∧ w'.ownsRow B 62 67 v' (k + n) (xs ++ ys) ∧ w.grownBy w' v.ownBlock := by
 obtain ⟨i0, hi, hz0, hz1, hz2⟩ := info_parts infoR
 match a with
 | none =>
  obtain rfl := hnil rfl
  obtain rfl : ys = [] := List.eq_nil_of_length_eq_zero (by omega)
  refine ⟨v, w, fun ty => ?_, by rw [List.append_nil]; exact hown, World.grownBy.refl w _⟩
  rcases hown.2 with ⟨rfl, rfl⟩ | ⟨g, cap, cur, rfl, _, _, hnc, _, _, _⟩
  · simp [Builtin.append_, run_underlying Tryz.underlying67, sizeOf, typeInfo, hi, Builtin.lenOf, Builtin.firstCells]
  · simp [Builtin.append_, run_underlying Tryz.underlying67, sizeOf, typeInfo, hi, Builtin.lenOf, Builtin.firstCells, storeCells, hnc]
 | some ad =>
  obtain ⟨v', w', hr, h2, h3, _⟩ := run_append_own (P := Tryz.prog) w B 67 0 62 i0 _ 67 88 Tryz.underlying67 hi hz0 hz1 hz2 rfl (by omega) v k xs hown ad n c ys hlen (hc ad rfl) hone (by unfold maxLen; omega) (by omega) hB
  exact ⟨v', w', fun ty => by rw [← hr]; rfl, h2, h3⟩
theorem rR_len {l : List Rt} (h : ∀ x ∈ l, OkQ x) : (rR l).length = l.length * 67 := by
 induction l with
 | nil => rfl
 | cons x t ih => rw [rR_cons, List.length_append, rC_length (h x (by simp)), ih (fun y hy => h y (by simp [hy])), List.length_cons]; omega
section
variable {P : Program} {ops : Array Oper} {S : World → Prop} {o : Oper} {v : Value} {a : Act}
theorem hold_slice (hw : Region.wanted o (yielded ops a.tmps) = true) (t : TypeId) (x : Operand) (lo hi mx : Option Operand) (h : o.op = .slice t x lo hi mx) {vx : Value} {vl vh vm : Option Value} (hx : a.eval x = vx) (hl : lo.map a.eval = vl) (hh : hi.map a.eval = vh) (hm : mx.map a.eval = vm) (hr : ∀ W, (Instr.sliceAt t vx vl vh vm).run P W = .ok v W) : YieldsIf P ops S o v a :=
 .inl ⟨hw, fun w _ => by unfold execOp; simp only [h, hx, hl, hh, hm, Sem.run_bind, hr, Result.andThen_ok, Sem.run_pure]⟩
end
theorem sl_take {K : Nat → Prop} {w : World} {a : Option Addr} {n c : Nat} {l : List Rt} (H : QS K w a n c l) {p : Nat} (hp : p ≤ n) (W : World) (hb : Below w.heap.size w W) (b : Addr) (e : a = some b) (j : Nat) (u : Value) (hu : (rR (l.take p))[j]? = some u) : W.cell? (b.add j) = some u := by
 subst e
 rw [rR_take (QS.oks H), List.getElem?_take] at hu
 have := hp
 by_cases hj : j < p * 67
 · rw [if_pos hj] at hu
   exact reads_holds (QS.reads H) hb b rfl j u hu
 · rw [if_neg hj] at hu; cases hu
theorem sl_cuts {K : Nat → Prop} {w : World} {a : Option Addr} {n c : Nat} {l : List Rt} (H : QS K w a n c l) (hl : l.length = n) {p : Nat} (hp : p ≤ n) :
 ∃ aH cH, (∀ W, (Instr.sliceAt 67 (.slice a n c) none (some (.int .i64 (p : Int))) none).run Tryz.prog W = .ok (.slice a p c) W) ∧
  (∀ W, (Instr.sliceAt 67 (.slice a n c) (some (.int .i64 (p : Int))) none none).run Tryz.prog W = .ok (.slice aH (n - p) cH) W) ∧
  (aH = none → n - p = 0) ∧ (∀ W, Below w.heap.size w W → ∀ b, aH = some b → ∀ j u, (rR (l.drop p))[j]? = some u → W.cell? (b.add j) = some u) := by
 have hc := RS.le H
 obtain ⟨i0, hi, hz0, hz1, hz2⟩ := info_parts infoR
 have e0 : (if c = 0 then a else Option.map (fun x : Addr => x.add (0 * 67)) a) = a := by
  rw [Nat.zero_mul]
  by_cases h : c = 0
  · rw [if_pos h]
  · rw [if_neg h]; cases a <;> simp [Addr.add]
 clear hz0 hz2
 have hE : Tryz.prog.elem 67 = 62 := by kernel_rfl
 have hU : Tryz.prog.underlying 67 = some (.slice (Tryz.prog.elem 67)) := by rw [hE]; exact Tryz.underlying67
 refine ⟨if c = p then a else a.map (·.add (p * 67)), c - p, fun W => ?_, fun W => ?_, fun e => ?_, fun W hb b e j u hu => ?_⟩
 · rw [run_sliceAt_slice (h := hU), run_slice_h (ht := hU) (h0 := by omega) (h2 := by omega)]
   rw [hE]
   simp only [sizeOf, typeInfo, Sem.run_bind, Result.andThen, Int.toNat_natCast, sliced]
   generalize i0.zero = z0 at *
   simp [hz1, e0, hi]
 · rw [run_sliceAt_slice (h := hU), run_slice_l (ht := hU) (h0 := by omega) (h1 := by omega)]
   rw [hE]
   simp only [sizeOf, typeInfo, Sem.run_bind, Result.andThen, Int.toNat_natCast, sliced]
   generalize i0.zero = z0 at *
   simp [hz1, hi]
 · cases a with
   | none => have := (RS.nil' H rfl).1; omega
   | some ad => by_cases h : c = p <;> simp [h] at e
 · have hu' := hu
   rw [rR_drop (QS.oks H), List.getElem?_drop] at hu
   have hjl := (List.getElem?_eq_some_iff.1 hu).1
   rw [rR_len (QS.oks H), hl] at hjl
   have hcp : c ≠ p := by omega
   rw [if_neg hcp] at e
   cases a with
   | none => cases e
   | some ad =>
    cases e
    obtain ⟨b0, off, e1, _, _⟩ := RS.block_lt H (by omega)
    cases e1
    have := reads_holds (QS.reads H) hb _ rfl _ u hu
    show W.cell? (((⟨b0, off, none⟩ : Addr).add (p * 67)).add j) = some u
    rw [Addr.add_lit] at this
    rw [Addr.add_lit, Addr.add_lit, Nat.add_assoc]
    exact this

structure AcW (w : World) (tb : Nat) (rw rr zS : List Value) (W : World) : Prop where
 bW : Blk W tb 69 rw
 bR : Blk W (tb + 1) 62 rr
 bZ : Blk W (tb + 1 + 1) 69 (wtC 0 none 0 0)
 bS : Blk W (tb + 1 + 1 + 1) 64 zS
 bel : Below w.heap.size w W
 htb : w.heap.size = tb
section
variable {w W W2 : World} {tb : Nat} {rw rr zS rowW rowS : List Value}
theorem AcW.next (h : AcW w tb rw rr zS W) (hb : Below W.heap.size W W2) : AcW w tb rw rr zS W2 := ⟨h.bW.below hb h.bW.lt, h.bR.below hb h.bR.lt, h.bZ.below hb h.bZ.lt, h.bS.below hb h.bS.lt, h.bel.trans (hb.mono h.bel.size), h.htb⟩
theorem AcW.nextB {B : Nat} (h : AcW w tb rw rr zS W) (hb : Below B W W2) (hB : tb + 1 + 1 + 1 < B) : AcW w tb rw rr zS W2 := ⟨h.bW.below hb (by omega), h.bR.below hb (by omega), h.bZ.below hb (by omega), h.bS.below hb hB, h.bel.trans (hb.mono (by have := h.htb; omega)), h.htb⟩
theorem AcW.grown {g : Nat} (h : AcW w tb rw rr zS W) (hg : W.grownBy W2 (some g)) (hl : tb + 1 + 1 + 1 < g) : AcW w tb rw rr zS W2 := ⟨h.bW.grown hg (fun e => by injection e with e; omega), h.bR.grown hg (fun e => by injection e with e; omega), h.bZ.grown hg (fun e => by injection e with e; omega), h.bS.grown hg (fun e => by injection e with e; omega), below_grown h.bel hg h.bel.size (by have := h.htb; omega), h.htb⟩
def XbW (W : World) (xb : Nat) (pub : Int) : Prop := ∃ a n c, Blk W xb 69 (wtC pub a n c)
theorem XbW.below {B xb : Nat} {pub : Int} (h : XbW W xb pub) (hb : Below B W W2) (hx : xb < B) : XbW W2 xb pub := by obtain ⟨a, n, c, h⟩ := h; exact ⟨a, n, c, h.below hb hx⟩
theorem XbW.lt {xb : Nat} {pub : Int} (h : XbW W xb pub) : xb < W.heap.size := by obtain ⟨a, n, c, h⟩ := h; exact h.lt
theorem ac_fin (h : AcW w tb rw rr zS W) (lW : rowW.length = 2) (oW : ∀ u ∈ rowW, u.oneCell' = true) (lz : zS.length = 134) (lS : rowS.length = 134) (oS : ∀ u ∈ rowS, u.oneCell' = true) :
 ∃ Wa Wb, PutR 69 W Wa (tb + 1 + 1) 69 rowW ∧ PutR 64 Wa Wb (tb + 1 + 1 + 1) 64 rowS ∧ Blk Wb (tb + 1 + 1) 69 rowW ∧ Blk Wb (tb + 1 + 1 + 1) 64 rowS ∧ Below w.heap.size w Wb := by
 obtain ⟨Wa, hPa⟩ := put_row (ty := 69) h.bZ (x := rowW) (by rw [lW]; rfl) (by rw [lW]; exact sizeWt) oW
 obtain ⟨Wb, hPb⟩ := put_row (ty := 64) (h.bS.grown hPa.grown (fun e => by injection e with e; omega)) (x := rowS) (by rw [lS, lz]) (by rw [lS]; exact sizeSp) oS
 have hz := h.htb
 exact ⟨Wa, Wb, hPa, hPb, hPa.blk.grown hPb.grown (fun e => by injection e with e; omega), hPb.blk, below_grown (below_grown h.bel hPa.grown h.bel.size (by omega)) hPb.grown (Nat.le_trans h.bel.size hPa.grown.size) (by omega)⟩
end

set_option maxRecDepth 20000 in
set_option maxHeartbeats 16000000 in
theorem r36accept_any (K : Nat → Prop) (V : Wt) (a : Option Addr) (n c : Nat) (r : Rt) (hr : OkQ r) (w : World) (H : WM K w V a n c) (hnb : n ≤ 100000) :
 Calls Tryz.prog 46 #[.agg (wtC V.pub a n c).toArray, .agg (rC r).toArray] w (AccPost K (Go.Dr.accW 4 V r) w) := by
 have hr' := Lib.hid hr
 have hlen := Lib.hid H.len
 have n63 := H.n63
 have hH := Lib.hid H
 have hQ := Lib.hid H.qs
 obtain ⟨X, hX0⟩ : ∃ X, X = AccPost K (Go.Dr.accW 4 V r) w := ⟨_, rfl⟩
 have hX : Hid (∀ (y : Wt × (Rt × Rt) × Int) a' n' c' W, Go.Dr.refAcc 4 V r = y → OkS y.2.1 → WM (fun b => (K b ∧ b < w.heap.size) ∨ w.heap.size ≤ b) W y.1 a' n' c' → Below w.heap.size w W → X (.returned (.tuple #[.agg (wtC y.1.pub a' n' c').toArray, .agg (spC y.2.1).toArray, .int .i64 y.2.2])) W) := fun y a' n' c' W e h1 h2 h3 => by
  rw [hX0, ← Go.Dr.refAcc_eq, e]; exact ⟨h1, a', n', c', rfl, h2, h3⟩
 rw [← hX0]
 clear hX0 H hr
 have hwm : Hid (∀ W, Below w.heap.size w W → WM (fun b => (K b ∧ b < w.heap.size) ∨ w.heap.size ≤ b) W V a n c) := fun W hb => (hH.out.imp (fun b hb hk => .inl ⟨hk, hb⟩)).below hb
 have hwz : Hid (∀ W, WM (fun b => (K b ∧ b < w.heap.size) ∨ w.heap.size ≤ b) W Go.Dr.zeroW none 0 0) := fun W => ⟨i64_0, RS.nil0 _ _ _⟩
 obtain ⟨tb, htb⟩ : ∃ tb, Hid (w.heap.size = tb) := ⟨_, rfl⟩
 have hck := Lib.hid (fun W h => r36check_any K V a n c W h)
 have hpr := Lib.hid (fun W => r36proper_any r hr'.out V.pub W)
 obtain ⟨rw, hrw⟩ : ∃ rw, Hid (wtC V.pub a n c = rw) := ⟨_, rfl⟩
 obtain ⟨rr, hrr⟩ : ∃ rr, Hid (rC r = rr) := ⟨_, rfl⟩
 obtain ⟨zS, hzS⟩ : ∃ zS, Hid (spC Go.Dr.zeroS = zS) := ⟨_, rfl⟩
 have lz : zS.length = 134 := by rw [← hzS.out]; exact spC_length okZS
 have oz : ∀ u ∈ zS, u.oneCell' = true := by rw [← hzS.out]; exact spC_one _
 have lw : rw.length = 2 := by rw [← hrw.out]; rfl
 have ow : ∀ u ∈ rw, u.oneCell' = true := by rw [← hrw.out]; exact wt_one _ _ _ _
 have hzr : Hid (∀ W, (Instr.build 64 #[]).run Tryz.prog W = .ok (.agg zS.toArray) W) := fun W => by rw [← hzS.out]; exact split_zero W
 have hiW : Hid ((Tryz.prog.info? 69).map (·.size) = some rw.length) := by show _ = _; rw [lw]; exact sizeWt
 have hiR : Hid ((Tryz.prog.info? 62).map (·.size) = some rr.length) := by show _ = _; rw [← hrr.out, rC_length hr'.out]; exact sizeR
 have lrr : rr.length = 67 := by rw [← hrr.out]; exact rC_length hr'.out
 have orr : ∀ u ∈ rr, u.oneCell' = true := by rw [← hrr.out]; exact rC_one r
 have hrs1 : Hid (∀ W : World, (Instr.buildSlice 67 1 #[(0, .agg rr.toArray)]).run Tryz.prog W = .ok (.slice (some ⟨W.heap.size, 0, none⟩) 1 1) (W.alloc (.cells rr.toArray 62))) := by rw [← hrr.out]; exact fun W => root_slice1 hr'.out W
 have hpub := Lib.hid hH.out.pub
 have hiS : Hid ((Tryz.prog.info? 64).map (·.size) = some zS.length) := by show _ = _; rw [lz]; exact sizeSp
 have hw0 : Hid (rw[0]? = some (.int .i64 V.pub)) := by rw [← hrw.out]; exact rfl
 have hw1 : Hid (rw[1]? = some (.slice a n c)) := by rw [← hrw.out]; exact rfl
 have hr0 : Hid (rr[0]? = some (.int .i64 r.no)) := by rw [← hrr.out]; exact rfl
 rw [hrw.out] at hck ⊢
 rw [hrr.out] at hpr ⊢
 go_enter Tryz.func46, Tryz.ntmps46
 go_upto_region 1 with fail
 rw [htb.out]
 generalize hW : World.alloc _ _ = W
 have hA : Hid (AcW w tb rw rr zS W) := by
  rw [← hW, ← htb.out, ← hzS.out]
  refine ⟨(((Blk.new w _ rw).alloc _).alloc _).alloc _, ?_, ?_, ?_, ((((Below.refl _ w).alloc (Nat.le_refl _) _).alloc (by simp) _).alloc (by simp; omega) _).alloc (by simp; omega) _, rfl⟩
  · have := ((Blk.new (w.alloc (.cells rw.toArray 69)) 62 rr).alloc (.cells (wtC 0 none 0 0).toArray 69)).alloc (.cells (spC Go.Dr.zeroS).toArray 64)
    rwa [World.size_alloc] at this
  · have := (Blk.new ((w.alloc (.cells rw.toArray 69)).alloc (.cells rr.toArray 62)) 69 (wtC 0 none 0 0)).alloc (.cells (spC Go.Dr.zeroS).toArray 64)
    rwa [World.size_alloc, World.size_alloc] at this
  · have := Blk.new (((w.alloc (.cells rw.toArray 69)).alloc (.cells rr.toArray 62)).alloc (.cells (wtC 0 none 0 0).toArray 69)) 64 (spC Go.Dr.zeroS)
    rwa [World.size_alloc, World.size_alloc, World.size_alloc] at this
 clear hW
 have hrgW := Lib.hid hA.out.bW.range
 go_wp2_with (first
  | (refine wpList_load_mid (by rfl) 69 (.tmp 2) (by rfl) tb 0 (by rfl) rw _ hrgW.out Tryz.underlying69 (by rfl) hiW.out ?_))
 refine (hck.out W (hH.out.below hA.out.bel)).mono ?_
 rintro e w1 ⟨rfl, hb1⟩
 have hA1 := Lib.hid (hA.out.next hb1)
 clear hb1 hA hrgW
 unfold chkW
 obtain ⟨CK, hCK⟩ : ∃ b, Hid (Go.Dr.wchk 4 V = b) := ⟨_, rfl⟩
 obtain ⟨PR, hPR⟩ : ∃ b, Hid (Go.Dr.properB 4 V.pub r = b) := ⟨_, rfl⟩
 rw [hCK.out]
 rw [hPR.out] at hpr
 cases CK with
 | false =>
  rw [if_neg (by simp)]
  obtain ⟨Wa, Wb, hPa, hPb, hbW, hbS, hbl⟩ := ac_fin hA1.out (rowW := wtC 0 none 0 0) (rowS := zS) rfl (wt_one _ _ _ _) lz lz oz
  have hPa' := Lib.hid hPa; have hPb' := Lib.hid hPb; have hbW' := Lib.hid hbW; have hbS' := Lib.hid hbS
  have hend : Hid (X (.returned (.tuple #[.agg (wtC 0 none 0 0).toArray, .agg zS.toArray, .int .i64 360])) Wb) := by
   rw [← hzS.out]
   exact hX.out (Go.Dr.zeroW, Go.Dr.zeroS, 360) none 0 0 Wb (by unfold Go.Dr.refAcc; rw [hCK.out, if_neg (by simp)]) okZS (hwz.out Wb) hbl
  clear hPa hPb hbW hbS hbl hA1
  go_wp2_with (first
   | (refine wpList_build_run (by rfl) 64 _ rfl #[] (by simp) (hzr.out _) ?_)
    | (refine wpList_store_mid (by rfl) 69 (.tmp 4) (.tmp 20) (by rfl) (tb + 1 + 1) 0 (wtC 0 none 0 0).toArray (by rfl) (by rfl) hPa'.out.there hPa'.out.info (by simpa using hPa'.out.one) ?_
       generalize hWq : World.setCells _ _ _ _ = Wq
       obtain rfl : Wa = Wq := by rw [← hWq]; exact hPa'.out.eq
       clear hWq)
    | (refine wpList_store_mid (by rfl) 64 (.tmp 5) (.tmp 21) (by rfl) (tb + 1 + 1 + 1) 0 (zS).toArray (by rfl) (by rfl) hPb'.out.there hPb'.out.info (by simpa using hPb'.out.one) ?_
       generalize hWq : World.setCells _ _ _ _ = Wq
       obtain rfl : Wb = Wq := by rw [← hWq]; exact hPb'.out.eq
       clear hWq))
  exact ret_cell_cell_tmp (p := 4) (q := 5) (u := 6) rfl hbW'.out Tryz.underlying69 rfl sizeWt hbS'.out Tryz.underlying64 rfl hiS.out rfl rfl rfl rfl hend.out
 | true =>
  rw [if_pos rfl]
  have d0 := hA1.out.bW.at_ hw0.out
  have hrgR := Lib.hid hA1.out.bR.range
  go_wp2_with (first
   | (refine wpList_load_mid (by rfl) 62 (.tmp 3) (by rfl) (tb + 1) 0 (by rfl) rr _ hrgR.out Tryz.underlying62 (by rfl) hiR.out ?_))
  refine (hpr.out w1).mono ?_
  rintro e w2 ⟨rfl, hb2⟩
  have hA2 := Lib.hid (hA1.out.next hb2)
  clear hb2 hA1 d0 hrgR hpr hck
  cases PR with
  | false =>
   obtain ⟨Wa, Wb, hPa, hPb, hbW, hbS, hbl⟩ := ac_fin hA2.out (rowW := wtC 0 none 0 0) (rowS := zS) rfl (wt_one _ _ _ _) lz lz oz
   have hPa' := Lib.hid hPa; have hPb' := Lib.hid hPb; have hbW' := Lib.hid hbW; have hbS' := Lib.hid hbS
   have hend : Hid (X (.returned (.tuple #[.agg (wtC 0 none 0 0).toArray, .agg zS.toArray, .int .i64 360])) Wb) := by
    rw [← hzS.out]
    exact hX.out (Go.Dr.zeroW, Go.Dr.zeroS, 360) none 0 0 Wb (by unfold Go.Dr.refAcc; rw [hCK.out, if_pos rfl, hPR.out, if_neg (by simp)]) okZS (hwz.out Wb) hbl
   clear hPa hPb hbW hbS hbl hA2
   go_wp2_with (first
    | (refine wpList_build_run (by rfl) 64 _ rfl #[] (by simp) (hzr.out _) ?_)
     | (refine wpList_store_mid (by rfl) 69 (.tmp 4) (.tmp 28) (by rfl) (tb + 1 + 1) 0 (wtC 0 none 0 0).toArray (by rfl) (by rfl) hPa'.out.there hPa'.out.info (by simpa using hPa'.out.one) ?_
        generalize hWq : World.setCells _ _ _ _ = Wq
        obtain rfl : Wa = Wq := by rw [← hWq]; exact hPa'.out.eq
        clear hWq)
     | (refine wpList_store_mid (by rfl) 64 (.tmp 5) (.tmp 29) (by rfl) (tb + 1 + 1 + 1) 0 (zS).toArray (by rfl) (by rfl) hPb'.out.there hPb'.out.info (by simpa using hPb'.out.one) ?_
        generalize hWq : World.setCells _ _ _ _ = Wq
        obtain rfl : Wb = Wq := by rw [← hWq]; exact hPb'.out.eq
        clear hWq))
   exact ret_cell_cell_tmp (p := 4) (q := 5) (u := 6) rfl hbW'.out Tryz.underlying69 rfl sizeWt hbS'.out Tryz.underlying64 rfl hiS.out rfl rfl rfl rfl hend.out
  | true =>
   have hno : Hid (1 ≤ r.no ∧ r.no ≤ 65536) := Go.Dr.proper_no hPR.out
   have hRF : Hid (∀ q, Go.Dr.refAt r V.rs 0 0 = q → Go.Dr.refAcc 4 V r = (match q.1 with | some y => if Go.Dr.contraB y r then (V, (y, r), 361) else (V, Go.Dr.zeroS, 0) | none => Go.Dr.refPut V r q.2)) := fun q e => by
    subst e
    unfold Go.Dr.refAcc; rw [hCK.out, if_pos rfl, hPR.out, if_pos rfl]
    try rfl
   clear hCK hPR
   have hox := Lib.hid (QS.oks hQ.out)
   go_wp2_with fail
   go_loopw [8, 9] (fun pv iv wr => ∃ k p : Nat, k ≤ n ∧ p ≤ k ∧ iv = .int .i64 (k : Int) ∧ pv = .int .i64 (p : Int) ∧ Hid (AcW w tb rw rr zS wr) ∧ Hid (Go.Dr.refAt r (V.rs.drop k) k p = Go.Dr.refAt r V.rs 0 0)) (fun _ iv _ => n - (intOf iv).toNat)
   case atStart => exact ⟨0, 0, Nat.zero_le _, Nat.le_refl _, rfl, rfl, hA2, rfl⟩
   case round =>
    obtain ⟨k, p, hk, hpk, rfl, rfl, hAr, hI⟩ := hrel
    clear hA2
    have sc1 := hAr.out.bW.at_ hw1.out
    by_cases hlt : k < n
    · have hkl : k < V.rs.length := by have := hlen.out; omega
      have hI' := hI.out
      rw [List.drop_eq_getElem_cons hkl, Go.Dr.refAt] at hI'
      have hkx := List.getElem?_eq_getElem hkl
      obtain ⟨b, off, rfl, hbl0, _, hoy0, hrg0⟩ := QS.cells hQ.out hkx
      obtain ⟨y, hy⟩ : ∃ y, V.rs[k] = y := ⟨_, rfl⟩
      rw [hy] at hoy0 hrg0 hI'
      have hoy := Lib.hid hoy0
      have hrg : Hid (wr.rangeAt b (off + k * 67) (rC y)) := fun j u hu => (hAr.out.bel.cell (p := ⟨b, off + k * 67 + j, none⟩) hbl0).trans (hrg0 j u hu)
      have hly : (rC y).length = 67 := rC_length hoy.out
      have hiy : Hid ((Tryz.prog.info? 62).map (·.size) = some (rC y).length) := by show _ = _; rw [hly]; exact sizeR
      obtain ⟨yb, hyb⟩ : ∃ yb, Hid (wr.heap.size = yb) := ⟨_, rfl⟩
      have hPy := Lib.hid (Put.mk' (ty := 62) (RES := rC y) (Blk.new wr 62 (rC Go.Dr.zeroR)) (by rw [hly, rC_length okZ]) (by rw [hly]; exact sizeR) (rC_one y))
      obtain ⟨W1, hW1⟩ : ∃ W1, Hid ((wr.alloc (.cells (rC Go.Dr.zeroR).toArray 62)).setCells wr.heap.size 0 (rC y) = W1) := ⟨_, rfl⟩
      have hA1 : Hid (AcW w tb rw rr zS W1) := hAr.out.next (by rw [← hW1.out]; exact below_grown ((Below.refl _ wr).alloc (Nat.le_refl _) _) hPy.out.grw (by simp) (Nat.le_refl _))
      have hBy : Hid (Blk W1 yb 62 (rC y)) := by rw [← hW1.out, ← hyb.out]; exact hPy.out.blk
      have hybl : tb + 1 + 1 + 1 < yb := by rw [← hyb.out]; exact hAr.out.bS.lt
      rw [hyb.out] at hPy hW1
      have y0 := hBy.out.at_ (i := 0) (x := .int .i64 y.no) rfl
      have r0 := hA1.out.bR.at_ hr0.out
      have hspl := Lib.hid (split_build hoy.out hr'.out)
      have hspr := Lib.hid (split_build hr'.out hoy.out)
      have hks : OkS (y, r) := ⟨hoy.out, hr'.out⟩
      have hks2 : OkS (r, y) := ⟨hr'.out, hoy.out⟩
      have lsp := spC_length hks
      have lsp2 := spC_length hks2
      have osp := spC_one (y, r)
      have osp2 := spC_one (r, y)
      obtain ⟨ry, hrye⟩ : ∃ ry, Hid (rC y = ry) := ⟨_, rfl⟩
      obtain ⟨sp, hspe⟩ : ∃ sp, Hid (spC (y, r) = sp) := ⟨_, rfl⟩
      obtain ⟨sp2, hspe2⟩ : ∃ sp, Hid (spC (r, y) = sp) := ⟨_, rfl⟩
      rw [hrye.out] at hrg hiy hPy hW1 hBy hspl hspr
      rw [hrr.out, hspe.out] at hspl
      rw [hrr.out, hspe2.out] at hspr
      rw [hspe.out] at lsp osp
      rw [hspe2.out] at lsp2 osp2
      have k0 : (0 : Int) ≤ (k : Int) := by omega
      have k1 : (k : Int) < (n : Int) := by omega
      have hkk : k < n := hlt
      clear hkx hoy0 hrg0 hy hbl0 hly
      by_cases heq : y.no = r.no
      · have heq' : (y.no == r.no) = true := by simpa using heq
        rw [if_pos heq] at hI'
        have hct := Lib.hid (fun W => r36contra_any y r hoy.out hr'.out hno.out.1 W)
        obtain ⟨C, hC⟩ : ∃ C, Hid (Go.Dr.contraB y r = C) := ⟨_, rfl⟩
        have hRA := Lib.hid (hRF.out _ hI'.symm)
        simp only at hRA
        rw [hC.out] at hct hRA
        rw [hrye.out, hrr.out] at hct
        have hr3 := Lib.hid hA1.out.bR.range
        have hy3 := Lib.hid hBy.out.range
        clear hI' hI heq hC hRF
        go_wp2_with (first
         | (refine wpList_load_mid (by rfl) 62 (.tmp 40) (by rfl) b (off + k * 67) (by rfl) ry _ hrg.out Tryz.underlying62 (by rfl) hiy.out ?_)
          | (rw [hyb.out]; refine wpList_store_mid (by rfl) 62 (.tmp 10) (.tmp 41) (by rfl) yb 0 ry.toArray (by rfl) (by rfl) hPy.out.th hPy.out.inf hPy.out.one ?_; generalize hWq : World.setCells _ _ _ _ = Wq; obtain rfl : W1 = Wq := by { rw [← hWq]; exact hW1.out.symm }; clear hWq)
          | (refine wpList_load_mid (by rfl) 62 (.tmp 10) (by rfl) yb 0 (by rfl) ry _ hy3.out Tryz.underlying62 (by rfl) hiy.out ?_)
          | (refine wpList_load_mid (by rfl) 62 (.tmp 3) (by rfl) (tb + 1) 0 (by rfl) rr _ hr3.out Tryz.underlying62 (by rfl) hiR.out ?_))
        refine (hct.out W1).mono ?_
        rintro e w5 ⟨rfl, hb5⟩
        have hA5 := Lib.hid (hA1.out.next hb5)
        have hB5 := Lib.hid (hBy.out.below hb5 hBy.out.lt)
        clear hb5 hA1 hBy y0 r0 hy3 hr3 hct hPy hW1
        cases C with
        | true =>
         rw [if_pos rfl] at hRA
         go_wp2_with fail
         have hA6 := hA5.out.next ((Below.refl _ w5).drew)
         have hB6 : Blk w5.drew yb 62 ry := hB5.out
         obtain ⟨Wa, Wb, hPa, hPb, hbW, hbS, hbl⟩ := ac_fin hA6 (rowW := rw) (rowS := sp) lw ow lz lsp osp
         have hPa' := Lib.hid hPa; have hPb' := Lib.hid hPb; have hbW' := Lib.hid hbW; have hbS' := Lib.hid hbS
         have his : Hid ((Tryz.prog.info? 64).map (·.size) = some sp.length) := by show _ = _; rw [lsp]; exact sizeSp
         have hend : Hid (X (.returned (.tuple #[.agg rw.toArray, .agg sp.toArray, .int .i64 361])) Wb) := by
          rw [← hrw.out, ← hspe.out]
          exact hX.out (V, (y, r), 361) _ n c Wb hRA.out hks (hwm.out Wb hbl) hbl
         clear hPa hPb hbW hbS hbl
         refine wp_region_held_drew (S := fun wz => Blk wz tb 69 rw ∧ Blk wz (tb + 1) 62 rr ∧ Blk wz yb 62 ry) (by kernel_rfl) (⟨hA6.bW, hA6.bR, hB6⟩) (fun hHeld => ?_)
         refine tY 0 rfl tb 0 (rw) (fun wz h => h.1.range) Tryz.underlying69 hiW.out hHeld ?_
         refine tY 1 rfl yb 0 (ry) (fun wz h => h.2.2.range) Tryz.underlying62 hiy.out hHeld ?_
         refine tY 2 rfl (tb + 1) 0 (rr) (fun wz h => h.2.1.range) Tryz.underlying62 hiR.out hHeld ?_
         refine tU 3 rfl #[(0, .agg ry.toArray), (1, .agg rr.toArray)] hspl.out hHeld ?_
         refine tO 4 rfl (fun K hK => ?_)
         refine wp_store_mid 69 _ _ rfl (tb + 1 + 1) 0 rw.toArray (by rfl) (by rfl) hPa'.out.there hPa'.out.info (by simpa using hPa'.out.one) ?_
         generalize hWq : World.setCells _ _ _ _ = Wq
         obtain rfl : Wa = Wq := by rw [← hWq]; exact hPa'.out.eq
         clear hWq
         refine hK.out _ _ (⟨hHeld.1.grown hPa'.out.grown (fun e => by injection e with e; omega), hHeld.2.1.grown hPa'.out.grown (fun e => by injection e with e; omega), hHeld.2.2.grown hPa'.out.grown (fun e => by injection e with e; omega)⟩ : Blk Wa tb 69 rw ∧ Blk Wa (tb + 1) 62 rr ∧ Blk Wa yb 62 ry) (fun hHeld2 => ?_)
         clear hHeld
         have hHeld := hHeld2
         clear hHeld2
         clear hK K
         try simp only [Act.put]
         refine tO 5 rfl (fun K hK => ?_)
         refine wp_store_mid 64 _ _ rfl (tb + 1 + 1 + 1) 0 sp.toArray (by rfl) (by rfl) hPb'.out.there hPb'.out.info (by simpa using hPb'.out.one) ?_
         generalize hWq : World.setCells _ _ _ _ = Wq
         obtain rfl : Wb = Wq := by rw [← hWq]; exact hPb'.out.eq
         clear hWq
         refine hK.out _ _ (⟨hHeld.1.grown hPb'.out.grown (fun e => by injection e with e; omega), hHeld.2.1.grown hPb'.out.grown (fun e => by injection e with e; omega), hHeld.2.2.grown hPb'.out.grown (fun e => by injection e with e; omega)⟩ : Blk Wb tb 69 rw ∧ Blk Wb (tb + 1) 62 rr ∧ Blk Wb yb 62 ry) (fun hHeld2 => ?_)
         clear hHeld
         clear hK K
         try simp only [Act.put]
         refine tQ 6 rfl hHeld2 ?_
         refine wpAnyH_done (by kernel_rfl) ?_ _
         go_wp2_with fail
         exact ret_cell_cell_tmp (p := 4) (q := 5) (u := 6) rfl hbW'.out Tryz.underlying69 rfl hiW.out hbS'.out Tryz.underlying64 rfl his.out rfl rfl rfl rfl hend.out
        | false =>
         rw [if_neg (by simp)] at hRA
         have hrgW := Lib.hid hA5.out.bW.range
         obtain ⟨Wa, Wb, hPa, hPb, hbW, hbS, hbl⟩ := ac_fin hA5.out (rowW := rw) (rowS := zS) lw ow lz lz oz
         have hPa' := Lib.hid hPa; have hPb' := Lib.hid hPb; have hbW' := Lib.hid hbW; have hbS' := Lib.hid hbS
         have hend : Hid (X (.returned (.tuple #[.agg rw.toArray, .agg zS.toArray, .int .i64 0])) Wb) := by
          rw [← hrw.out, ← hzS.out]
          exact hX.out (V, Go.Dr.zeroS, 0) _ n c Wb hRA.out okZS (hwm.out Wb hbl) hbl
         clear hPa hPb hbW hbS hbl hA5
         go_wp2_with (first
          | (refine wpList_load_mid (by rfl) 69 (.tmp 2) (by rfl) tb 0 (by rfl) rw _ hrgW.out Tryz.underlying69 (by rfl) hiW.out ?_)
           | (refine wpList_build_run (by rfl) 64 _ rfl #[] (by simp) (hzr.out _) ?_)
           | (refine wpList_store_mid (by rfl) 69 (.tmp 4) (.tmp 54) (by rfl) (tb + 1 + 1) 0 (rw).toArray (by rfl) (by rfl) hPa'.out.there hPa'.out.info (by simpa using hPa'.out.one) ?_
              generalize hWq : World.setCells _ _ _ _ = Wq
              obtain rfl : Wa = Wq := by rw [← hWq]; exact hPa'.out.eq
              clear hWq)
           | (refine wpList_store_mid (by rfl) 64 (.tmp 5) (.tmp 55) (by rfl) (tb + 1 + 1 + 1) 0 (zS).toArray (by rfl) (by rfl) hPb'.out.there hPb'.out.info (by simpa using hPb'.out.one) ?_
              generalize hWq : World.setCells _ _ _ _ = Wq
              obtain rfl : Wb = Wq := by rw [← hWq]; exact hPb'.out.eq
              clear hWq))
         exact ret_cell_cell_tmp (p := 4) (q := 5) (u := 6) rfl hbW'.out Tryz.underlying69 rfl hiW.out hbS'.out Tryz.underlying64 rfl hiS.out rfl rfl rfl rfl hend.out
      · have heq' : (y.no == r.no) = false := by simpa using heq
        rw [if_neg heq] at hI'
        have hp63 : (k : Int) + 1 ≤ 9223372036854775807 := by omega
        by_cases hls : y.no < r.no
        · have hls' : decide (y.no < r.no) = true := by simpa using hls
          rw [if_pos hls] at hI'
          have hI2 := Lib.hid hI'
          clear hI' hI hls heq
          go_wp2_with (first
           | (refine wpList_load_mid (by rfl) 62 (.tmp 40) (by rfl) b (off + k * 67) (by rfl) ry _ hrg.out Tryz.underlying62 (by rfl) hiy.out ?_)
            | (rw [hyb.out]; refine wpList_store_mid (by rfl) 62 (.tmp 10) (.tmp 41) (by rfl) yb 0 ry.toArray (by rfl) (by rfl) hPy.out.th hPy.out.inf hPy.out.one ?_; generalize hWq : World.setCells _ _ _ _ = Wq; obtain rfl : W1 = Wq := by { rw [← hWq]; exact hW1.out.symm }; clear hWq))
          go_roundw
          case rel => exact ⟨k + 1, k + 1, by omega, by omega, by go_num, by go_num, hA1, hI2⟩
          case measure => simp [intOf]; omega
        · have hls' : decide (y.no < r.no) = false := by simpa using hls
          rw [if_neg hls] at hI'
          have hI2 := Lib.hid hI'
          clear hI' hI hls heq
          go_wp2_with (first
           | (refine wpList_load_mid (by rfl) 62 (.tmp 40) (by rfl) b (off + k * 67) (by rfl) ry _ hrg.out Tryz.underlying62 (by rfl) hiy.out ?_)
            | (rw [hyb.out]; refine wpList_store_mid (by rfl) 62 (.tmp 10) (.tmp 41) (by rfl) yb 0 ry.toArray (by rfl) (by rfl) hPy.out.th hPy.out.inf hPy.out.one ?_; generalize hWq : World.setCells _ _ _ _ = Wq; obtain rfl : W1 = Wq := by { rw [← hWq]; exact hW1.out.symm }; clear hWq))
          go_roundw
          case rel => exact ⟨k + 1, p, by omega, by omega, by go_num, rfl, hA1, hI2⟩
          case measure => simp [intOf]; omega
    · obtain rfl : n = k := by omega
      have hI' := hI.out
      rw [List.drop_eq_nil_of_le (by rw [hlen.out]; exact Nat.le_refl _), Go.Dr.refAt] at hI'
      have hRP : Hid (Go.Dr.refAcc 4 V r = Go.Dr.refPut V r p) := by show _ = _; have := hRF.out _ hI'.symm; simpa using this
      have hA2 := hAr
      have hpn := hpk
      clear hI' hI hRF hAr hk hlt hpk
      go_wp2_with fail
      go_loopw [11] (fun iv wr => ∃ k : Nat, k ≤ n ∧ iv = .int .i64 (k : Int) ∧ Hid (AcW w tb rw rr zS wr) ∧ Hid (Go.Dr.refLo r (V.rs.drop k) = Go.Dr.refLo r V.rs)) (fun iv _ => n - (intOf iv).toNat)
      case atStart => exact ⟨0, Nat.zero_le _, rfl, hA2, rfl⟩
      case round =>
       clear hA2 sc1
       obtain ⟨k, hk, rfl, hAr, hI⟩ := hrel
       have sc1 := hAr.out.bW.at_ hw1.out
       by_cases hlt : k < n
       · have hkl : k < V.rs.length := by have := hlen.out; omega
         have hI' := hI.out
         rw [List.drop_eq_getElem_cons hkl, Go.Dr.refLo] at hI'
         have hkx := List.getElem?_eq_getElem hkl
         obtain ⟨b, off, rfl, hbl0, _, hoy0, hrg0⟩ := QS.cells hQ.out hkx
         obtain ⟨y, hy⟩ : ∃ y, V.rs[k] = y := ⟨_, rfl⟩
         rw [hy] at hoy0 hrg0 hI'
         have hoy := Lib.hid hoy0
         have hrg : Hid (wr.rangeAt b (off + k * 67) (rC y)) := fun j u hu => (hAr.out.bel.cell (p := ⟨b, off + k * 67 + j, none⟩) hbl0).trans (hrg0 j u hu)
         have hly : (rC y).length = 67 := rC_length hoy.out
         have hiy : Hid ((Tryz.prog.info? 62).map (·.size) = some (rC y).length) := by show _ = _; rw [hly]; exact sizeR
         obtain ⟨yb, hyb⟩ : ∃ yb, Hid (wr.heap.size = yb) := ⟨_, rfl⟩
         have hPy := Lib.hid (Put.mk' (ty := 62) (RES := rC y) (Blk.new wr 62 (rC Go.Dr.zeroR)) (by rw [hly, rC_length okZ]) (by rw [hly]; exact sizeR) (rC_one y))
         obtain ⟨W1, hW1⟩ : ∃ W1, Hid ((wr.alloc (.cells (rC Go.Dr.zeroR).toArray 62)).setCells wr.heap.size 0 (rC y) = W1) := ⟨_, rfl⟩
         have hA1 : Hid (AcW w tb rw rr zS W1) := hAr.out.next (by rw [← hW1.out]; exact below_grown ((Below.refl _ wr).alloc (Nat.le_refl _) _) hPy.out.grw (by simp) (Nat.le_refl _))
         have hBy : Hid (Blk W1 yb 62 (rC y)) := by rw [← hW1.out, ← hyb.out]; exact hPy.out.blk
         have hybl : tb + 1 + 1 + 1 < yb := by rw [← hyb.out]; exact hAr.out.bS.lt
         rw [hyb.out] at hPy hW1
         have y0 := hBy.out.at_ (i := 0) (x := .int .i64 y.no) rfl
         have r0 := hA1.out.bR.at_ hr0.out
         have hspl := Lib.hid (split_build hoy.out hr'.out)
         have hspr := Lib.hid (split_build hr'.out hoy.out)
         have hks : OkS (y, r) := ⟨hoy.out, hr'.out⟩
         have hks2 : OkS (r, y) := ⟨hr'.out, hoy.out⟩
         have lsp := spC_length hks
         have lsp2 := spC_length hks2
         have osp := spC_one (y, r)
         have osp2 := spC_one (r, y)
         obtain ⟨ry, hrye⟩ : ∃ ry, Hid (rC y = ry) := ⟨_, rfl⟩
         obtain ⟨sp, hspe⟩ : ∃ sp, Hid (spC (y, r) = sp) := ⟨_, rfl⟩
         obtain ⟨sp2, hspe2⟩ : ∃ sp, Hid (spC (r, y) = sp) := ⟨_, rfl⟩
         rw [hrye.out] at hrg hiy hPy hW1 hBy hspl hspr
         rw [hrr.out, hspe.out] at hspl
         rw [hrr.out, hspe2.out] at hspr
         rw [hspe.out] at lsp osp
         rw [hspe2.out] at lsp2 osp2
         have k0 : (0 : Int) ≤ (k : Int) := by omega
         have k1 : (k : Int) < (n : Int) := by omega
         have hkk : k < n := hlt
         clear hkx hoy0 hrg0 hy hbl0 hly
         obtain ⟨m, hm⟩ : ∃ m, r.no - 1 = m := ⟨_, rfl⟩
         have hwmm : IntKind.i64.wrap m = m := by have := hno.out; rw [IntKind.wrap_i64]; omega
         rw [hm] at hI'
         by_cases heq : y.no = m
         · have heq' : (y.no == m) = true := by simpa using heq
           have hct := Lib.hid (fun W => r36contra_any y r hoy.out hr'.out hno.out.1 W)
           obtain ⟨C, hC⟩ : ∃ C, Hid (Go.Dr.contraB y r = C) := ⟨_, rfl⟩
           rw [hC.out] at hct hI'
           rw [hrye.out, hrr.out] at hct
           have hr3 := Lib.hid hA1.out.bR.range
           have hy3 := Lib.hid hBy.out.range
           have hI3 := Lib.hid hI'
           have heqH := Lib.hid heq
           clear hI' hI hC heq
           go_wp2_with (first
            | (refine wpList_load_mid (by rfl) 62 (.tmp 73) (by rfl) b (off + k * 67) (by rfl) ry _ hrg.out Tryz.underlying62 (by rfl) hiy.out ?_)
             | (rw [hyb.out]; refine wpList_store_mid (by rfl) 62 (.tmp 12) (.tmp 74) (by rfl) yb 0 ry.toArray (by rfl) (by rfl) hPy.out.th hPy.out.inf hPy.out.one ?_; generalize hWq : World.setCells _ _ _ _ = Wq; obtain rfl : W1 = Wq := by { rw [← hWq]; exact hW1.out.symm }; clear hWq)
             | (refine wpList_load_gd (by rfl) 62 (.tmp 12) (by rfl) yb 0 (by rfl) ry _ hy3.out Tryz.underlying62 (by rfl) hiy.out ?_)
             | (refine wpList_load_gd (by rfl) 62 (.tmp 3) (by rfl) (tb + 1) 0 (by rfl) rr _ hr3.out Tryz.underlying62 (by rfl) hiR.out ?_))
           refine (hct.out W1).mono ?_
           rintro e w5 ⟨rfl, hb5⟩
           have hA5 := Lib.hid (hA1.out.next hb5)
           have hB5 := Lib.hid (hBy.out.below hb5 hBy.out.lt)
           clear hb5 hA1 hBy y0 r0 hy3 hr3 hct hPy hW1
           cases C with
           | true =>
            have hRA : Hid (Go.Dr.refAcc 4 V r = (V, (y, r), 361)) := by
             show _ = _
             have := hI3.out
             rw [if_pos ⟨heqH.out, rfl⟩] at this
             rw [hRP.out]; unfold Go.Dr.refPut; rw [← this]
            clear hI3 heqH
            go_wp2_with fail
            have hA6 := hA5.out.next ((Below.refl _ w5).drew)
            have hB6 : Blk w5.drew yb 62 ry := hB5.out
            obtain ⟨Wa, Wb, hPa, hPb, hbW, hbS, hbl⟩ := ac_fin hA6 (rowW := rw) (rowS := sp) lw ow lz lsp osp
            have hPa' := Lib.hid hPa; have hPb' := Lib.hid hPb; have hbW' := Lib.hid hbW; have hbS' := Lib.hid hbS
            have his : Hid ((Tryz.prog.info? 64).map (·.size) = some sp.length) := by show _ = _; rw [lsp]; exact sizeSp
            have hend : Hid (X (.returned (.tuple #[.agg rw.toArray, .agg sp.toArray, .int .i64 361])) Wb) := by
             rw [← hrw.out, ← hspe.out]
             exact hX.out (V, (y, r), 361) _ n c Wb hRA.out hks (hwm.out Wb hbl) hbl
            clear hPa hPb hbW hbS hbl
            refine wp_region_held_drew (S := fun wz => Blk wz tb 69 rw ∧ Blk wz (tb + 1) 62 rr ∧ Blk wz yb 62 ry) (by kernel_rfl) (⟨hA6.bW, hA6.bR, hB6⟩) (fun hHeld => ?_)
            refine tY 0 rfl tb 0 (rw) (fun wz h => h.1.range) Tryz.underlying69 hiW.out hHeld ?_
            refine tY 1 rfl yb 0 (ry) (fun wz h => h.2.2.range) Tryz.underlying62 hiy.out hHeld ?_
            refine tY 2 rfl (tb + 1) 0 (rr) (fun wz h => h.2.1.range) Tryz.underlying62 hiR.out hHeld ?_
            refine tU 3 rfl #[(0, .agg ry.toArray), (1, .agg rr.toArray)] hspl.out hHeld ?_
            refine tO 4 rfl (fun K hK => ?_)
            refine wp_store_mid 69 _ _ rfl (tb + 1 + 1) 0 rw.toArray (by rfl) (by rfl) hPa'.out.there hPa'.out.info (by simpa using hPa'.out.one) ?_
            generalize hWq : World.setCells _ _ _ _ = Wq
            obtain rfl : Wa = Wq := by rw [← hWq]; exact hPa'.out.eq
            clear hWq
            refine hK.out _ _ (⟨hHeld.1.grown hPa'.out.grown (fun e => by injection e with e; omega), hHeld.2.1.grown hPa'.out.grown (fun e => by injection e with e; omega), hHeld.2.2.grown hPa'.out.grown (fun e => by injection e with e; omega)⟩ : Blk Wa tb 69 rw ∧ Blk Wa (tb + 1) 62 rr ∧ Blk Wa yb 62 ry) (fun hHeld2 => ?_)
            clear hHeld
            have hHeld := hHeld2
            clear hHeld2
            clear hK K
            try simp only [Act.put]
            refine tO 5 rfl (fun K hK => ?_)
            refine wp_store_mid 64 _ _ rfl (tb + 1 + 1 + 1) 0 sp.toArray (by rfl) (by rfl) hPb'.out.there hPb'.out.info (by simpa using hPb'.out.one) ?_
            generalize hWq : World.setCells _ _ _ _ = Wq
            obtain rfl : Wb = Wq := by rw [← hWq]; exact hPb'.out.eq
            clear hWq
            refine hK.out _ _ (⟨hHeld.1.grown hPb'.out.grown (fun e => by injection e with e; omega), hHeld.2.1.grown hPb'.out.grown (fun e => by injection e with e; omega), hHeld.2.2.grown hPb'.out.grown (fun e => by injection e with e; omega)⟩ : Blk Wb tb 69 rw ∧ Blk Wb (tb + 1) 62 rr ∧ Blk Wb yb 62 ry) (fun hHeld2 => ?_)
            clear hHeld
            clear hK K
            try simp only [Act.put]
            refine tQ 6 rfl hHeld2 ?_
            refine wpAnyH_done (by kernel_rfl) ?_ _
            go_wp2_with fail
            exact ret_cell_cell_tmp (p := 4) (q := 5) (u := 6) rfl hbW'.out Tryz.underlying69 rfl hiW.out hbS'.out Tryz.underlying64 rfl his.out rfl rfl rfl rfl hend.out
           | false =>
            have hI2 : Hid (Go.Dr.refLo r (V.rs.drop (k + 1)) = Go.Dr.refLo r V.rs) := by
             have := hI3.out
             rw [if_neg (by simp)] at this
             exact this
            clear hI3 heqH
            go_wp2_with fail
            go_roundw
            case rel => exact ⟨k + 1, by omega, by go_num, hA5, hI2⟩
            case measure => simp [intOf]; omega
         · have heq' : (y.no == m) = false := by simpa using heq
           rw [if_neg (fun h => heq h.1)] at hI'
           have hI2 := Lib.hid hI'
           clear hI' hI heq
           go_wp2_with (first
            | (refine wpList_load_mid (by rfl) 62 (.tmp 73) (by rfl) b (off + k * 67) (by rfl) ry _ hrg.out Tryz.underlying62 (by rfl) hiy.out ?_)
             | (rw [hyb.out]; refine wpList_store_mid (by rfl) 62 (.tmp 12) (.tmp 74) (by rfl) yb 0 ry.toArray (by rfl) (by rfl) hPy.out.th hPy.out.inf hPy.out.one ?_; generalize hWq : World.setCells _ _ _ _ = Wq; obtain rfl : W1 = Wq := by { rw [← hWq]; exact hW1.out.symm }; clear hWq))
           go_roundw
           case rel => exact ⟨k + 1, by omega, by go_num, hA1, hI2⟩
           case measure => simp [intOf]; omega
       · obtain rfl : n = k := by omega
         have hlo : Hid (Go.Dr.refLo r V.rs = none) := by
          have := hI.out
          rw [List.drop_eq_nil_of_le (by rw [hlen.out]; exact Nat.le_refl _), Go.Dr.refLo] at this
          exact this.symm
         have hA2 := hAr
         clear hI hAr hk hlt
         go_wp2_with fail
         go_loopw [13] (fun iv wr => ∃ k : Nat, k ≤ n ∧ iv = .int .i64 (k : Int) ∧ Hid (AcW w tb rw rr zS wr) ∧ Hid (Go.Dr.refHi r (V.rs.drop k) = Go.Dr.refHi r V.rs)) (fun iv _ => n - (intOf iv).toNat)
         case atStart => exact ⟨0, Nat.zero_le _, rfl, hA2, rfl⟩
         case round =>
          clear hA2 sc1
          obtain ⟨k, hk, rfl, hAr, hI⟩ := hrel
          have sc1 := hAr.out.bW.at_ hw1.out
          by_cases hlt : k < n
          · have hkl : k < V.rs.length := by have := hlen.out; omega
            have hI' := hI.out
            rw [List.drop_eq_getElem_cons hkl, Go.Dr.refHi] at hI'
            have hkx := List.getElem?_eq_getElem hkl
            obtain ⟨b, off, rfl, hbl0, _, hoy0, hrg0⟩ := QS.cells hQ.out hkx
            obtain ⟨y, hy⟩ : ∃ y, V.rs[k] = y := ⟨_, rfl⟩
            rw [hy] at hoy0 hrg0 hI'
            have hoy := Lib.hid hoy0
            have hrg : Hid (wr.rangeAt b (off + k * 67) (rC y)) := fun j u hu => (hAr.out.bel.cell (p := ⟨b, off + k * 67 + j, none⟩) hbl0).trans (hrg0 j u hu)
            have hly : (rC y).length = 67 := rC_length hoy.out
            have hiy : Hid ((Tryz.prog.info? 62).map (·.size) = some (rC y).length) := by show _ = _; rw [hly]; exact sizeR
            obtain ⟨yb, hyb⟩ : ∃ yb, Hid (wr.heap.size = yb) := ⟨_, rfl⟩
            have hPy := Lib.hid (Put.mk' (ty := 62) (RES := rC y) (Blk.new wr 62 (rC Go.Dr.zeroR)) (by rw [hly, rC_length okZ]) (by rw [hly]; exact sizeR) (rC_one y))
            obtain ⟨W1, hW1⟩ : ∃ W1, Hid ((wr.alloc (.cells (rC Go.Dr.zeroR).toArray 62)).setCells wr.heap.size 0 (rC y) = W1) := ⟨_, rfl⟩
            have hA1 : Hid (AcW w tb rw rr zS W1) := hAr.out.next (by rw [← hW1.out]; exact below_grown ((Below.refl _ wr).alloc (Nat.le_refl _) _) hPy.out.grw (by simp) (Nat.le_refl _))
            have hBy : Hid (Blk W1 yb 62 (rC y)) := by rw [← hW1.out, ← hyb.out]; exact hPy.out.blk
            have hybl : tb + 1 + 1 + 1 < yb := by rw [← hyb.out]; exact hAr.out.bS.lt
            rw [hyb.out] at hPy hW1
            have y0 := hBy.out.at_ (i := 0) (x := .int .i64 y.no) rfl
            have r0 := hA1.out.bR.at_ hr0.out
            have hspl := Lib.hid (split_build hoy.out hr'.out)
            have hspr := Lib.hid (split_build hr'.out hoy.out)
            have hks : OkS (y, r) := ⟨hoy.out, hr'.out⟩
            have hks2 : OkS (r, y) := ⟨hr'.out, hoy.out⟩
            have lsp := spC_length hks
            have lsp2 := spC_length hks2
            have osp := spC_one (y, r)
            have osp2 := spC_one (r, y)
            obtain ⟨ry, hrye⟩ : ∃ ry, Hid (rC y = ry) := ⟨_, rfl⟩
            obtain ⟨sp, hspe⟩ : ∃ sp, Hid (spC (y, r) = sp) := ⟨_, rfl⟩
            obtain ⟨sp2, hspe2⟩ : ∃ sp, Hid (spC (r, y) = sp) := ⟨_, rfl⟩
            rw [hrye.out] at hrg hiy hPy hW1 hBy hspl hspr
            rw [hrr.out, hspe.out] at hspl
            rw [hrr.out, hspe2.out] at hspr
            rw [hspe.out] at lsp osp
            rw [hspe2.out] at lsp2 osp2
            have k0 : (0 : Int) ≤ (k : Int) := by omega
            have k1 : (k : Int) < (n : Int) := by omega
            have hkk : k < n := hlt
            clear hkx hoy0 hrg0 hy hbl0 hly
            obtain ⟨m, hm⟩ : ∃ m, r.no + 1 = m := ⟨_, rfl⟩
            have hwmm : IntKind.i64.wrap m = m := by have := hno.out; rw [IntKind.wrap_i64]; omega
            rw [hm] at hI'
            by_cases heq : y.no = m
            · have heq' : (y.no == m) = true := by simpa using heq
              have hct := Lib.hid (fun W => r36contra_any r y hr'.out hoy.out (by have := hno.out; omega) W)
              obtain ⟨C, hC⟩ : ∃ C, Hid (Go.Dr.contraB r y = C) := ⟨_, rfl⟩
              rw [hC.out] at hct hI'
              rw [hrye.out, hrr.out] at hct
              have hr3 := Lib.hid hA1.out.bR.range
              have hy3 := Lib.hid hBy.out.range
              have hI3 := Lib.hid hI'
              have heqH := Lib.hid heq
              clear hI' hI hC heq
              go_wp2_with (first
               | (refine wpList_load_mid (by rfl) 62 (.tmp 100) (by rfl) b (off + k * 67) (by rfl) ry _ hrg.out Tryz.underlying62 (by rfl) hiy.out ?_)
                | (rw [hyb.out]; refine wpList_store_mid (by rfl) 62 (.tmp 14) (.tmp 101) (by rfl) yb 0 ry.toArray (by rfl) (by rfl) hPy.out.th hPy.out.inf hPy.out.one ?_; generalize hWq : World.setCells _ _ _ _ = Wq; obtain rfl : W1 = Wq := by { rw [← hWq]; exact hW1.out.symm }; clear hWq)
                | (refine wpList_load_gd (by rfl) 62 (.tmp 14) (by rfl) yb 0 (by rfl) ry _ hy3.out Tryz.underlying62 (by rfl) hiy.out ?_)
                | (refine wpList_load_gd (by rfl) 62 (.tmp 3) (by rfl) (tb + 1) 0 (by rfl) rr _ hr3.out Tryz.underlying62 (by rfl) hiR.out ?_))
              refine (hct.out W1).mono ?_
              rintro e w5 ⟨rfl, hb5⟩
              have hA5 := Lib.hid (hA1.out.next hb5)
              have hB5 := Lib.hid (hBy.out.below hb5 hBy.out.lt)
              clear hb5 hA1 hBy y0 r0 hy3 hr3 hct hPy hW1
              cases C with
              | true =>
               have hRA : Hid (Go.Dr.refAcc 4 V r = (V, (r, y), 361)) := by
                show _ = _
                have := hI3.out
                rw [if_pos ⟨heqH.out, rfl⟩] at this
                rw [hRP.out]; unfold Go.Dr.refPut; rw [hlo.out, ← this]
               clear hI3 heqH
               go_wp2_with fail
               have hA6 := hA5.out.next ((Below.refl _ w5).drew)
               have hB6 : Blk w5.drew yb 62 ry := hB5.out
               obtain ⟨Wa, Wb, hPa, hPb, hbW, hbS, hbl⟩ := ac_fin hA6 (rowW := rw) (rowS := sp2) lw ow lz lsp2 osp2
               have hPa' := Lib.hid hPa; have hPb' := Lib.hid hPb; have hbW' := Lib.hid hbW; have hbS' := Lib.hid hbS
               have his : Hid ((Tryz.prog.info? 64).map (·.size) = some sp2.length) := by show _ = _; rw [lsp2]; exact sizeSp
               have hend : Hid (X (.returned (.tuple #[.agg rw.toArray, .agg sp2.toArray, .int .i64 361])) Wb) := by
                rw [← hrw.out, ← hspe2.out]
                exact hX.out (V, (r, y), 361) _ n c Wb hRA.out hks2 (hwm.out Wb hbl) hbl
               clear hPa hPb hbW hbS hbl
               refine wp_region_held_drew (S := fun wz => Blk wz tb 69 rw ∧ Blk wz (tb + 1) 62 rr ∧ Blk wz yb 62 ry) (by kernel_rfl) (⟨hA6.bW, hA6.bR, hB6⟩) (fun hHeld => ?_)
               refine tY 0 rfl tb 0 (rw) (fun wz h => h.1.range) Tryz.underlying69 hiW.out hHeld ?_
               refine tY 1 rfl (tb + 1) 0 (rr) (fun wz h => h.2.1.range) Tryz.underlying62 hiR.out hHeld ?_
               refine tY 2 rfl yb 0 (ry) (fun wz h => h.2.2.range) Tryz.underlying62 hiy.out hHeld ?_
               refine tU 3 rfl #[(0, .agg rr.toArray), (1, .agg ry.toArray)] hspr.out hHeld ?_
               refine tO 4 rfl (fun K hK => ?_)
               refine wp_store_mid 69 _ _ rfl (tb + 1 + 1) 0 rw.toArray (by rfl) (by rfl) hPa'.out.there hPa'.out.info (by simpa using hPa'.out.one) ?_
               generalize hWq : World.setCells _ _ _ _ = Wq
               obtain rfl : Wa = Wq := by rw [← hWq]; exact hPa'.out.eq
               clear hWq
               refine hK.out _ _ (⟨hHeld.1.grown hPa'.out.grown (fun e => by injection e with e; omega), hHeld.2.1.grown hPa'.out.grown (fun e => by injection e with e; omega), hHeld.2.2.grown hPa'.out.grown (fun e => by injection e with e; omega)⟩ : Blk Wa tb 69 rw ∧ Blk Wa (tb + 1) 62 rr ∧ Blk Wa yb 62 ry) (fun hHeld2 => ?_)
               clear hHeld
               have hHeld := hHeld2
               clear hHeld2
               clear hK K
               try simp only [Act.put]
               refine tO 5 rfl (fun K hK => ?_)
               refine wp_store_mid 64 _ _ rfl (tb + 1 + 1 + 1) 0 sp2.toArray (by rfl) (by rfl) hPb'.out.there hPb'.out.info (by simpa using hPb'.out.one) ?_
               generalize hWq : World.setCells _ _ _ _ = Wq
               obtain rfl : Wb = Wq := by rw [← hWq]; exact hPb'.out.eq
               clear hWq
               refine hK.out _ _ (⟨hHeld.1.grown hPb'.out.grown (fun e => by injection e with e; omega), hHeld.2.1.grown hPb'.out.grown (fun e => by injection e with e; omega), hHeld.2.2.grown hPb'.out.grown (fun e => by injection e with e; omega)⟩ : Blk Wb tb 69 rw ∧ Blk Wb (tb + 1) 62 rr ∧ Blk Wb yb 62 ry) (fun hHeld2 => ?_)
               clear hHeld
               clear hK K
               try simp only [Act.put]
               refine tQ 6 rfl hHeld2 ?_
               refine wpAnyH_done (by kernel_rfl) ?_ _
               go_wp2_with fail
               exact ret_cell_cell_tmp (p := 4) (q := 5) (u := 6) rfl hbW'.out Tryz.underlying69 rfl hiW.out hbS'.out Tryz.underlying64 rfl his.out rfl rfl rfl rfl hend.out
              | false =>
               have hI2 : Hid (Go.Dr.refHi r (V.rs.drop (k + 1)) = Go.Dr.refHi r V.rs) := by
                have := hI3.out
                rw [if_neg (by simp)] at this
                exact this
               clear hI3 heqH
               go_wp2_with fail
               go_roundw
               case rel => exact ⟨k + 1, by omega, by go_num, hA5, hI2⟩
               case measure => simp [intOf]; omega
            · have heq' : (y.no == m) = false := by simpa using heq
              rw [if_neg (fun h => heq h.1)] at hI'
              have hI2 := Lib.hid hI'
              clear hI' hI heq
              go_wp2_with (first
               | (refine wpList_load_mid (by rfl) 62 (.tmp 100) (by rfl) b (off + k * 67) (by rfl) ry _ hrg.out Tryz.underlying62 (by rfl) hiy.out ?_)
                | (rw [hyb.out]; refine wpList_store_mid (by rfl) 62 (.tmp 14) (.tmp 101) (by rfl) yb 0 ry.toArray (by rfl) (by rfl) hPy.out.th hPy.out.inf hPy.out.one ?_; generalize hWq : World.setCells _ _ _ _ = Wq; obtain rfl : W1 = Wq := by { rw [← hWq]; exact hW1.out.symm }; clear hWq))
              go_roundw
              case rel => exact ⟨k + 1, by omega, by go_num, hA1, hI2⟩
              case measure => simp [intOf]; omega
          · obtain rfl : n = k := by omega
            have hRA : Hid (Go.Dr.refAcc 4 V r = (⟨V.pub, V.rs.take p ++ r :: V.rs.drop p⟩, Go.Dr.zeroS, 0)) := by
             have := hI.out
             rw [List.drop_eq_nil_of_le (by rw [hlen.out]; exact Nat.le_refl _), Go.Dr.refHi] at this
             show _ = _
             rw [hRP.out]; unfold Go.Dr.refPut; rw [hlo.out, ← this]
            have hA2 := hAr
            have hrgW := Lib.hid hAr.out.bW.range
            clear hI hAr hlt hRP hlo
            obtain ⟨xb, hxb⟩ : ∃ xb, Hid (wr.heap.size = xb) := ⟨_, rfl⟩
            have hPx := Lib.hid (Put.mk' (ty := 69) (RES := rw) (Blk.new wr 69 (wtC 0 none 0 0)) (by rw [lw]; rfl) (by rw [lw]; exact sizeWt) ow)
            obtain ⟨W1, hW1⟩ : ∃ W1, Hid ((wr.alloc (.cells (wtC 0 none 0 0).toArray 69)).setCells wr.heap.size 0 rw = W1) := ⟨_, rfl⟩
            have hA3 : Hid (AcW w tb rw rr zS W1) := hA2.out.next (by rw [← hW1.out]; exact below_grown ((Below.refl _ wr).alloc (Nat.le_refl _) _) hPx.out.grw (by simp) (Nat.le_refl _))
            have hBx : Hid (Blk W1 xb 69 rw) := by rw [← hW1.out, ← hxb.out]; exact hPx.out.blk
            have hxbl : tb + 1 + 1 + 1 < xb := by rw [← hxb.out]; exact hA2.out.bS.lt
            rw [hxb.out] at hPx hW1
            clear hA2
            go_wp2_with (first
             | (refine wpList_load_mid (by rfl) 69 (.tmp 2) (by rfl) tb 0 (by rfl) rw _ hrgW.out Tryz.underlying69 (by rfl) hiW.out ?_)
              | (rw [hxb.out]; refine wpList_store_mid (by rfl) 69 (.tmp 15) (.tmp 117) (by rfl) xb 0 rw.toArray (by rfl) (by rfl) hPx.out.th hPx.out.inf hPx.out.one ?_; generalize hWq : World.setCells _ _ _ _ = Wq; obtain rfl : W1 = Wq := by { rw [← hWq]; exact hW1.out.symm }; clear hWq))
            clear hrgW hPx hW1 sc1
            refine wp_region_held_drew (S := fun wz => AcW w tb rw rr zS wz ∧ XbW wz xb V.pub) (by kernel_rfl) (⟨hA3.out.next (Below.refl _ W1).drew, ⟨a, n, c, by rw [hrw.out]; exact hBx.out⟩⟩) (fun hHeld => ?_)
            have hB3 : AcW w tb rw rr zS W1.drew := hA3.out.next (Below.refl _ W1).drew
            clear hA3 hBx hxb
            generalize W1.drew = V0 at *
            have hQ0 := Lib.hid (QS.below hQ.out hB3.bel)
            obtain ⟨aH, cH, hlo, hhi, hzH, hcH⟩ := sl_cuts hQ0.out hlen.out hpn
            have hzA := Lib.hid (fun e => (RS.nil' hQ0.out e).1)
            have hcA := Lib.hid (sl_take hQ0.out hpn)
            have hcH' := Lib.hid hcH
            have hlo' := Lib.hid hlo
            have hhi' := Lib.hid hhi
            have hzH' := Lib.hid hzH
            clear hQ0 hcH hlo hhi hzH
            obtain ⟨B0, hB0⟩ : ∃ B0, Hid (V0.heap.size = B0) := ⟨_, rfl⟩
            have hxB : xb < B0 := by rw [← hB0.out]; exact hHeld.2.lt
            have hwB : w.heap.size < B0 := by have := hB3.htb; omega
            rw [hB0.out] at hcA hcH'
            obtain ⟨VZ, hVZ⟩ : ∃ V, V = V0 := ⟨_, rfl⟩
            have bB : Below V0.heap.size V0 VZ := by rw [hVZ]; exact Below.refl _ _
            rw [← hVZ] at hHeld ⊢
            rw [hB0.out] at bB
            clear hVZ
            refine tQ 1 rfl hHeld ?_
            refine tX 2 rfl (fun wz hSw => hSw.1.bW.at_ hw1.out) hHeld ?_
            refine tQ 3 rfl hHeld ?_
            refine tG 4 rfl (hold_slice (by rfl) _ _ _ _ _ rfl (by rfl) (by rfl) (by rfl) (by rfl) hlo'.out) hHeld ?_
            refine tY 6 rfl (tb + 1) 0 (rr) (fun wz h => h.1.bR.range) Tryz.underlying62 hiR.out hHeld ?_
            refine tQ 9 rfl hHeld ?_
            refine tX 10 rfl (fun wz hSw => hSw.1.bW.at_ hw1.out) hHeld ?_
            refine tQ 11 rfl hHeld ?_
            refine tG 12 rfl (hold_slice (by rfl) _ _ _ _ _ rfl (by rfl) (by rfl) (by rfl) (by rfl) hhi'.out) hHeld ?_
            refine share (G := ∀ (e5 : Nat) (g5 : Nat) (v1 : Value) (WZ : World), (AcW w tb rw rr zS WZ ∧ XbW WZ xb V.pub) → (Below B0 V0 WZ) → (World.ownsRow WZ B0 62 67 v1 p (rR (V.rs.take p))) → (Blk WZ g5 62 rr) → (B0 ≤ g5) → (?GS057 : Nat → Nat → Value → World → Prop) e5 g5 v1 WZ) ?hS057 ?kS057
            case' hS057 => intro KS057
            case' hS057 =>
             refine share (G := ∀ (e5 : Nat) (g5 : Nat) (WZ : World), (AcW w tb rw rr zS WZ ∧ XbW WZ xb V.pub) → (Below B0 V0 WZ) → (World.ownsRow WZ B0 62 67 (.slice (some ⟨e5, 0, none⟩) 0 0) 0 []) → (Blk WZ g5 62 rr) → (B0 ≤ g5) → (e5 ≠ g5) → (?GS07 : Nat → Nat → World → Prop) e5 g5 WZ) ?hS07 ?kS07
            case' hS07 => intro KS07
            case' hS07 =>
             refine share (G := ∀ (e5 : Nat) (v1 : Value) (WZ : World), (AcW w tb rw rr zS WZ ∧ XbW WZ xb V.pub) → (Below B0 V0 WZ) → (World.ownsRow WZ B0 62 67 v1 p (rR (V.rs.take p))) → (?GS05 : Nat → Value → World → Prop) e5 v1 WZ) ?hS05 ?kS05
            case' hS05 => intro KS05
            case' hS05 =>
             refine share (G := ∀ (e5 : Nat) (WZ : World), (AcW w tb rw rr zS WZ ∧ XbW WZ xb V.pub) → (Below B0 V0 WZ) → (World.ownsRow WZ B0 62 67 (.slice (some ⟨e5, 0, none⟩) 0 0) 0 []) → (?GS0 : Nat → World → Prop) e5 WZ) ?hS0 ?kS0
            case' hS0 => intro KS0
            case' hS0 =>
             refine share (G := ∀ (g5 : Nat) (WZ : World), (AcW w tb rw rr zS WZ ∧ XbW WZ xb V.pub) → (Below B0 V0 WZ) → (Blk WZ g5 62 rr) → (B0 ≤ g5) → (?GS7 : Nat → World → Prop) g5 WZ) ?hS7 ?kS7
            case' hS7 => intro KS7
            case hS7 =>
             refine rd (rs := [0, 7]) ?_
             refine tR rfl (fun K hK => ?_) (tR rfl (fun K hK => ?_) rn)
             case refine_1 =>
              refine wp_buildSlice_run 67 0 #[] rfl #[] (by simp) (empty_roots VZ) ?_
              refine hK.out _ _ (⟨hHeld.1.next ((Below.refl _ VZ).alloc (Nat.le_refl _) _), hHeld.2.below ((Below.refl _ VZ).alloc (Nat.le_refl _) _) hHeld.2.lt⟩) (fun hHeld2 => ?_)
              clear hK K
              try simp only [Act.put, sA, s0, s1]
              have bB2 := bB.alloc (hB0.out ▸ bB.size) (.cells #[] 62)
              have hE2 := Sl.owns_mono (own_newR VZ) (hB0.out ▸ bB.size)
              generalize VZ.heap.size = e5 at *
              generalize World.alloc VZ _ = W2 at *
              exact KS0 e5 W2 (hHeld2) (bB2) (hE2)
             case refine_2 =>
              refine wp_buildSlice_run _ _ _ rfl #[(0, .agg rr.toArray)] (by simp only [List.map_toArray, List.map_cons, List.map_nil]; rfl) (hrs1.out _) ?_
              refine hK.out _ _ (⟨hHeld.1.next ((Below.refl _ VZ).alloc (Nat.le_refl _) _), hHeld.2.below ((Below.refl _ VZ).alloc (Nat.le_refl _) _) hHeld.2.lt⟩) (fun hHeld2 => ?_)
              clear hK K
              try simp only [Act.put, sA, s0, s1]
              have bB2 := bB.alloc (hB0.out ▸ bB.size) (.cells rr.toArray 62)
              have hG2 := Blk.new VZ 62 rr
              have hGl2 := (hB0.out ▸ bB.size)
              generalize VZ.heap.size = g5 at *
              generalize World.alloc VZ _ = W2 at *
              exact KS7 g5 W2 (hHeld2) (bB2) (hG2) (hGl2)
            case kS0 =>
             intro e5 WZ hHeld bB hE
             refine rd (rs := [5, 7]) ?_
             refine tR rfl (fun K hK => ?_) (tR rfl (fun K hK => ?_) rn)
             case refine_1 =>
              obtain ⟨v1, W2, hr1, hO2, hgr⟩ := append_rs (a := a) (n := p) (c := c) (ys := rR (V.rs.take p)) hE (hcA.out _ (hB0.out ▸ bB)) (fun e => by have := hzA.out e; omega) (by rw [rR_take hox.out, List.length_take, rR_len hox.out, hlen.out]; omega) (rR_one _) (by omega) (hB0.out ▸ bB.size)
              have hgr2 := (Below.refl B0 WZ).grown hgr (hB0.out ▸ bB.size) (fun k e => (World.ownsRow.lt hE k e).1)
              have hHeld2 : AcW w tb rw rr zS W2 ∧ XbW W2 xb V.pub := ⟨hHeld.1.nextB hgr2 (by omega), hHeld.2.below hgr2 hxB⟩
              have bB2 := bB.trans hgr2
              refine wp_append_run rfl _ _ (by rfl) (by rfl) (hr1 _) ?_
              refine hK.out _ _ hHeld2 (fun _ => ?_)
              clear hK K
              try simp only [Act.put, sA, s0, s1]
              rw [List.nil_append, Nat.zero_add] at hO2
              exact KS05 e5 v1 W2 (hHeld2) (bB2) (hO2)
             case refine_2 =>
              refine wp_buildSlice_run _ _ _ rfl #[(0, .agg rr.toArray)] (by simp only [List.map_toArray, List.map_cons, List.map_nil]; rfl) (hrs1.out _) ?_
              refine hK.out _ _ (⟨hHeld.1.next ((Below.refl _ WZ).alloc (Nat.le_refl _) _), hHeld.2.below ((Below.refl _ WZ).alloc (Nat.le_refl _) _) hHeld.2.lt⟩) (fun hHeld2 => ?_)
              clear hK K
              try simp only [Act.put, sA, s0, s1]
              have bB2 := bB.alloc (hB0.out ▸ bB.size) (.cells rr.toArray 62)
              have hG2 := Blk.new WZ 62 rr
              have hGl2 := (hB0.out ▸ bB.size)
              have hE2 := World.ownsRow.alloc hE (.cells rr.toArray 62)
              have hN2 : e5 ≠ WZ.heap.size := by have := (World.ownsRow.lt hE e5 rfl).2; omega
              generalize WZ.heap.size = g5 at *
              generalize World.alloc WZ _ = W2 at *
              exact KS07 e5 g5 W2 (hHeld2) (bB2) (hE2) (hG2) (hGl2) (hN2)
            case kS7 =>
             intro g5 WZ hHeld bB hG hGl
             refine tO 0 rfl (fun K hK => ?_)
             refine wp_buildSlice_run 67 0 #[] rfl #[] (by simp) (empty_roots WZ) ?_
             refine hK.out _ _ (⟨hHeld.1.next ((Below.refl _ WZ).alloc (Nat.le_refl _) _), hHeld.2.below ((Below.refl _ WZ).alloc (Nat.le_refl _) _) hHeld.2.lt⟩) (fun hHeld2 => ?_)
             clear hK K
             try simp only [Act.put, sA, s0, s1]
             have bB2 := bB.alloc (hB0.out ▸ bB.size) (.cells #[] 62)
             have hE2 := Sl.owns_mono (own_newR WZ) (hB0.out ▸ bB.size)
             have hG2 := hG.alloc (.cells #[] 62)
             have hN2 : WZ.heap.size ≠ g5 := by have := hG.lt; omega
             generalize WZ.heap.size = e5 at *
             generalize World.alloc WZ _ = W2 at *
             exact KS07 e5 g5 W2 (hHeld2) (bB2) (hE2) (hG2) (hGl) (hN2)
            case kS07 =>
             intro e5 g5 WZ hHeld bB hE hG hGl hN
             refine tO 5 rfl (fun K hK => ?_)
             obtain ⟨v1, W2, hr1, hO2, hgr⟩ := append_rs (a := a) (n := p) (c := c) (ys := rR (V.rs.take p)) hE (hcA.out _ (hB0.out ▸ bB)) (fun e => by have := hzA.out e; omega) (by rw [rR_take hox.out, List.length_take, rR_len hox.out, hlen.out]; omega) (rR_one _) (by omega) (hB0.out ▸ bB.size)
             have hgr2 := (Below.refl B0 WZ).grown hgr (hB0.out ▸ bB.size) (fun k e => (World.ownsRow.lt hE k e).1)
             have hHeld2 : AcW w tb rw rr zS W2 ∧ XbW W2 xb V.pub := ⟨hHeld.1.nextB hgr2 (by omega), hHeld.2.below hgr2 hxB⟩
             have bB2 := bB.trans hgr2
             have hG2 := hG.grown hgr (fun e => by injection e with e; exact hN e.symm)
             refine wp_append_run rfl _ _ (by rfl) (by rfl) (hr1 _) ?_
             refine hK.out _ _ hHeld2 (fun _ => ?_)
             clear hK K
             try simp only [Act.put, sA, s0, s1]
             rw [List.nil_append, Nat.zero_add] at hO2
             exact KS057 e5 g5 v1 W2 (hHeld2) (bB2) (hO2) (hG2) (hGl)
            case kS05 =>
             intro e5 v1 WZ hHeld bB hO
             refine tO 7 rfl (fun K hK => ?_)
             refine wp_buildSlice_run _ _ _ rfl #[(0, .agg rr.toArray)] (by simp only [List.map_toArray, List.map_cons, List.map_nil]; rfl) (hrs1.out _) ?_
             refine hK.out _ _ (⟨hHeld.1.next ((Below.refl _ WZ).alloc (Nat.le_refl _) _), hHeld.2.below ((Below.refl _ WZ).alloc (Nat.le_refl _) _) hHeld.2.lt⟩) (fun hHeld2 => ?_)
             clear hK K
             try simp only [Act.put, sA, s0, s1]
             have bB2 := bB.alloc (hB0.out ▸ bB.size) (.cells rr.toArray 62)
             have hG2 := Blk.new WZ 62 rr
             have hGl2 := (hB0.out ▸ bB.size)
             have hO2 := World.ownsRow.alloc hO (.cells rr.toArray 62)
             generalize WZ.heap.size = g5 at *
             generalize World.alloc WZ _ = W2 at *
             exact KS057 e5 g5 v1 W2 (hHeld2) (bB2) (hO2) (hG2) (hGl2)
            case kS057 =>
             intro e5 g5 v1 WZ hHeld bB hO hG hGl
             refine tO 8 rfl (fun K hK => ?_)
             obtain ⟨v2, W6, hr6, hO6, hgr6⟩ := append_rs (a := some ⟨g5, 0, none⟩) (n := 1) (c := 1) (ys := rr) hO (fun b e j u hu => by cases e; rw [Addr.add_lit, Nat.zero_add]; exact hG.at_ hu) (fun e => by cases e) (by rw [lrr]) orr (by omega) (hB0.out ▸ bB.size)
             have hbg := (Below.refl B0 WZ).grown hgr6 (hB0.out ▸ bB.size) (fun k e => (World.ownsRow.lt hO k e).1)
             have bB6 := bB.trans hbg
             refine wp_append_run rfl _ _ (by rfl) (by rfl) (hr6 _) ?_
             refine hK.out _ _ (⟨hHeld.1.nextB hbg (by omega), hHeld.2.below hbg hxB⟩) (fun hHeld2 => ?_)
             clear hHeld hK K
             have hHeld := hHeld2
             clear hHeld2
             try simp only [Act.put, sA, s0, s1]
             clear hr6 hO hG hgr6 hbg bB
             refine tO 13 rfl (fun K hK => ?_)
             obtain ⟨v3, W7, hr6, hO7, hgr6⟩ := append_rs (a := aH) (n := n - p) (c := cH) (ys := rR (V.rs.drop p)) hO6 (hcH'.out _ (hB0.out ▸ bB6)) hzH'.out (by rw [rR_drop hox.out, List.length_drop, rR_len hox.out, hlen.out]; omega) (rR_one _) (by omega) (hB0.out ▸ bB6.size)
             have hbg := (Below.refl B0 W6).grown hgr6 (hB0.out ▸ bB6.size) (fun k e => (World.ownsRow.lt hO6 k e).1)
             refine wp_append_run rfl _ _ (by rfl) (by rfl) (hr6 _) ?_
             refine hK.out _ _ (⟨hHeld.1.nextB hbg (by omega), hHeld.2.below hbg hxB⟩) (fun hHeld2 => ?_)
             clear hHeld hK K
             have hHeld := hHeld2
             clear hHeld2
             try simp only [Act.put, sA, s0, s1]
             refine tQ 14 rfl hHeld ?_
             obtain ⟨l9, hl9⟩ : ∃ l9, Hid (V.rs.take p ++ r :: V.rs.drop p = l9) := ⟨_, rfl⟩
             have hrl : rR (V.rs.take p) ++ rr ++ rR (V.rs.drop p) = rR l9 := by rw [← hl9.out, ← hrr.out, rR_append, rR_cons, List.append_assoc]
             have hll : l9.length = n + 1 := by rw [← hl9.out]; simp only [List.length_append, List.length_cons, List.length_take, List.length_drop, hlen.out]; omega
             have hol : ∀ x ∈ l9, OkQ x := fun x hx => by
              rw [← hl9.out, List.mem_append, List.mem_cons] at hx
              rcases hx with hx | rfl | hx
              · exact hox.out x (List.mem_of_mem_take hx)
              · exact hr'.out
              · exact hox.out x (List.mem_of_mem_drop hx)
             rw [hrl, (by omega : p + 1 + (n - p) = n + 1)] at hO7
             obtain ⟨a9, c9, rfl, hQ9⟩ := own_qs hO7 hll hol
             rw [hl9.out] at hRA
             clear hr6 hO6 hO7 hgr6 bB6 hrl hbg
             refine tO 15 rfl (fun K hK => ?_)
             obtain ⟨a3, n3, c3, hX3⟩ := hHeld.2
             have q2 := hX3.at_ (i := 1) (x := .slice a3 n3 c3) rfl
             have f2 := hX3.frozen 1
             show Oper.wp _ _ _ _ K _
             go_simp
             have hset : Blk (W7.setCell ⟨xb, 1, none⟩ (.slice a9 (n + 1) c9)) xb 69 (wtC V.pub a9 (n + 1) c9) := hX3.set 1 (.slice a9 (n + 1) c9)
             have hgs2 : W7.grownBy (W7.setCell ⟨xb, 1, none⟩ (.slice a9 (n + 1) c9)) (some xb) := grown_set (World.grownBy.refl W7 _) (.inl rfl) _
             have hA9 : AcW w tb rw rr zS (W7.setCell ⟨xb, 1, none⟩ (.slice a9 (n + 1) c9)) := hHeld.1.grown hgs2 hxbl
             have hQ2 : QS (fun b => B0 ≤ b) (W7.setCell ⟨xb, 1, none⟩ (.slice a9 (n + 1) c9)) a9 (n + 1) c9 l9 := hQ9.keep (Keeps.grown hgs2 (fun b hb e => by omega))
             refine hK.out _ _ (⟨hA9, ⟨_, _, _, hset⟩⟩ : AcW w tb rw rr zS (W7.setCell ⟨xb, 1, none⟩ (.slice a9 (n + 1) c9)) ∧ XbW (W7.setCell ⟨xb, 1, none⟩ (.slice a9 (n + 1) c9)) xb V.pub) (fun _ => ?_)
             clear hHeld hK K hQ9 q2 f2 hgs2 hX3
             try simp only [Act.put, sA, s0, s1]
             refine wpAnyH_done (by kernel_rfl) ?_ _
             generalize W7.setCell ⟨xb, 1, none⟩ (.slice a9 (n + 1) c9) = V5 at *
             obtain ⟨Wa, Wb, hPa, hPb, hbW, hbS, hbl⟩ := ac_fin hA9 (rowW := wtC V.pub a9 (n + 1) c9) (rowS := zS) rfl (wt_one _ _ _ _) lz lz oz
             have hPa' := Lib.hid hPa; have hPb' := Lib.hid hPb; have hbW' := Lib.hid hbW; have hbS' := Lib.hid hbS
             have htb9 := hA9.htb
             have hQ3 : QS (fun b => B0 ≤ b) Wb a9 (n + 1) c9 l9 := (hQ2.keep (Keeps.grown hPa.grown (fun b hb e => by omega))).keep (Keeps.grown hPb.grown (fun b hb e => by omega))
             have hend : Hid (X (.returned (.tuple #[.agg (wtC V.pub a9 (n + 1) c9).toArray, .agg zS.toArray, .int .i64 0])) Wb) := by
              rw [← hzS.out]
              exact hX.out (⟨V.pub, l9⟩, Go.Dr.zeroS, 0) a9 (n + 1) c9 Wb hRA.out okZS ⟨hpub.out, hQ3.imp (fun b _ hb => .inr (by omega))⟩ hbl
             have hsr := Lib.hid hset.range
             obtain ⟨r9, hr9⟩ : ∃ r9, Hid (wtC V.pub a9 (n + 1) c9 = r9) := ⟨_, rfl⟩
             have hi9 : Hid ((Tryz.prog.info? 69).map (·.size) = some r9.length) := by show _ = _; rw [← hr9.out]; exact sizeWt
             rw [hr9.out] at hsr hPa' hbW' hend
             clear hPa hPb hbW hbS hbl hQ3 hQ2 hset hA9 hX
             go_wp2_with (first
              | (refine wpList_load_mid (by rfl) 69 (.tmp 15) (by rfl) xb 0 (by rfl) r9 _ hsr.out Tryz.underlying69 (by rfl) hi9.out ?_)
               | (refine wpList_build_run (by rfl) 64 _ rfl #[] (by simp) (hzr.out _) ?_)
               | (refine wpList_store_mid (by rfl) 69 (.tmp 4) (.tmp 133) (by rfl) (tb + 1 + 1) 0 r9.toArray (by rfl) (by rfl) hPa'.out.there hPa'.out.info (by simpa using hPa'.out.one) ?_
                  generalize hWq : World.setCells _ _ _ _ = Wq
                  obtain rfl : Wa = Wq := by rw [← hWq]; exact hPa'.out.eq
                  clear hWq)
               | (refine wpList_store_mid (by rfl) 64 (.tmp 5) (.tmp 134) (by rfl) (tb + 1 + 1 + 1) 0 zS.toArray (by rfl) (by rfl) hPb'.out.there hPb'.out.info (by simpa using hPb'.out.one) ?_
                  generalize hWq : World.setCells _ _ _ _ = Wq
                  obtain rfl : Wb = Wq := by rw [← hWq]; exact hPb'.out.eq
                  clear hWq))
             exact ret_cell_cell_tmp (p := 4) (q := 5) (u := 6) rfl hbW'.out Tryz.underlying69 rfl hi9.out hbS'.out Tryz.underlying64 rfl hiS.out rfl rfl rfl rfl hend.out

end Go.Proofs.YtlpgjdlkjahdgaaGreatDoor
namespace Go.Proofs.YtlpgjdlkjahdgaaGreatDoor
open Go.RowKit Go.Mem
open Go.Dr (Lst Rt Dir Wt)

theorem acc_okR {V : Wt} (h : ∀ x ∈ V.rs, OkQ x) {x : Rt} (hx : OkQ x) : OkS (Go.Dr.accW 4 V x).2.1 := by
 unfold Go.Dr.accW
 repeat' split
 all_goals first | exact confl_ok' h hx | exact okZS
theorem cellsSp2 : Tryz.prog.cellsOf 64 = 134 := by kernel_rfl
theorem keyTSp2 : Tryz.prog.keyTypeAt 4 64 = true := by kernel_rfl
theorem keyLits_sp (D : Nat) {s : Rt × Rt} (ok : OkS s) : Tryz.prog.keyLits (D + 4) 64 (spC s) = some (litR s.1 ++ litR s.2) := by
 have l1 := rC_length ok.1
 have l2 := rC_length ok.2
 have p0 : ((spC s).drop 0).take 67 = rC s.1 := by
  show List.take 67 (rC s.1 ++ rC s.2) = _
  rw [List.take_append_of_le_length (by omega), List.take_of_length_le (by omega)]
 have p1 : ((spC s).drop 67).take 67 = rC s.2 := by
  show List.take 67 (List.drop 67 (rC s.1 ++ rC s.2)) = _
  rw [List.drop_left' l1, List.take_of_length_le (by omega)]
 have q0 := keyLits_rt D ok.1
 have q1 := keyLits_rt D ok.2
 unfold Program.keyLits
 rw [Tryz.underlying64]
 have hlen : (spC s).length = Tryz.prog.cellsOf 64 := by rw [spC_length ok, cellsSp2]
 obtain ⟨cs, hcs⟩ : ∃ cs, cs = spC s := ⟨_, rfl⟩
 rw [← hcs] at p0 p1 hlen ⊢
 match cs, hlen with
 | [], hl => rw [cellsSp2] at hl; cases hl
 | c :: r, hl =>
  simp only [hl]
  rw [if_pos ⟨trivial, by kernel_rfl⟩]
  simp only [List.mapM_cons, List.mapM_nil, cellsRt, p0, p1, q0, q1]
  simp
theorem formed_sp {s : Rt × Rt} (ok : OkS s) : (Value.agg (spC s).toArray).formed Tryz.prog 64 = true := by
 simp [Value.formed, spC_length ok, cellsSp2]
theorem eq_split {s : Rt × Rt} (ok : OkS s) (w : World) : (Op.equalIn 10000 64 (.agg (spC s).toArray) (.agg (spC s).toArray)).run Tryz.prog w = .ok true w := by
 obtain ⟨r, hr, hiff⟩ := run_equalIn_deep (P := Tryz.prog) 9996 4 64 keyTSp2 w 4 4 (.agg (spC s).toArray) (.agg (spC s).toArray) (litR s.1 ++ litR s.2) (litR s.1 ++ litR s.2) (formed_sp ok) (formed_sp ok)
  (by simpa [Value.cells] using keyLits_sp 0 ok) (by simpa [Value.cells] using keyLits_sp 0 ok)
 have e : r = true := hiff.2 rfl
 rw [← e]
 exact hr
end Go.Proofs.YtlpgjdlkjahdgaaGreatDoor
