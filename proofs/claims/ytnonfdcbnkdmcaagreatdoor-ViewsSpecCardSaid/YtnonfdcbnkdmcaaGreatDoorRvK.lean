/- the reference 32: New, Compare -/
import Derived.Test.YtnonfdcbnkdmcaaGreatDoorAl
import Derived.Test.YtnonfdcbnkdmcaaGreatDoorRvC
import Derived.Test.YtnonfdcbnkdmcaaGreatDoorVwD
namespace Go.Proofs.YtnonfdcbnkdmcaaGreatDoor
open Go.RowKit Go.Mem Go.Shelf
open Go.Vw (Hd Fk zeroF zeroH lastH checkV validB cmpV cmpOk cmp2)

theorem r32new_any (st fo pub : Int) (w : World) :
 Calls Tryz.prog 25 #[.int .i64 st, .int .i64 fo, .int .i64 pub] w fun e w' => e = .returned (.agg #[.int .i64 st, .int .i64 fo, .int .i64 pub, .slice none 0 0, .slice none 0 0]) ∧ Below w.heap.size w w' := by
 go_enter Tryz.func25, Tryz.ntmps25
 go_wp2_with fail
 exact ret_cell (fn := Tryz.f25) (p := 6) (r := [.int .i64 st, .int .i64 fo, .int .i64 pub, .slice none 0 0, .slice none 0 0]) rfl (Blk.new w 50 _) Tryz.underlying50 rfl (by kernel_rfl) rfl rfl ⟨rfl, (Below.refl _ w).alloc (Nat.le_refl _) _⟩

theorem cmp2_R (x y : Vw.V) : cmp2 x y = if (oddR y.hs x.ds).2 = true then (⟨(oddR y.hs x.ds).1, lastH x.hs, x.ds⟩, true) else if (oddR x.hs y.ds).2 = true then (⟨(oddR x.hs y.ds).1, lastH y.hs, y.ds⟩, true) else (zeroF, false) := by
 unfold cmp2
 rw [accuse_R, accuse_R]
 cases (oddR y.hs x.ds).2 <;> cases (oddR x.hs y.ds).2 <;> rfl
structure CmR (w : World) (tb : Nat) (rA rB rF rX rY : List Value) (qa qb : Nat) (W : World) : Prop where
 b2 : Blk W tb 50 rA
 b3 : Blk W (tb + 1) 50 rB
 bF : Blk W (tb + 1 + 1) 53 rF
 b6 : Blk W qa 50 rX
 b7 : Blk W qb 50 rY
 bel : Below w.heap.size w W
 lo : w.heap.size ≤ tb
 ne : qa ≠ qb ∧ tb + 1 + 1 < qa ∧ tb + 1 + 1 < qb
section
variable {w W W' : World} {tb qa qb : Nat} {rA rB rF rX rY r : List Value}
theorem CmR.below (h : CmR w tb rA rB rF rX rY qa qb W) (hb : Below W.heap.size W W') : CmR w tb rA rB rF rX rY qa qb W' :=
 ⟨h.b2.below hb h.b2.lt, h.b3.below hb h.b3.lt, h.bF.below hb h.bF.lt, h.b6.below hb h.b6.lt, h.b7.below hb h.b7.lt, h.bel.trans (hb.mono h.bel.size), h.lo, h.ne⟩
theorem CmR.setF (h : CmR w tb rA rB rF rX rY qa qb W) (hP : PutR 53 W W' (tb + 1 + 1) 53 r) : CmR w tb rA rB r rX rY qa qb W' := by
 have hn := h.ne
 exact ⟨h.b2.grown hP.grown (fun e => by injection e with e; omega), h.b3.grown hP.grown (fun e => by injection e with e; omega), hP.blk, h.b6.grown hP.grown (fun e => by injection e with e; omega), h.b7.grown hP.grown (fun e => by injection e with e; omega), below_grown h.bel hP.grown h.bel.size (by have := h.lo; omega), h.lo, h.ne⟩
theorem CmR.setX (h : CmR w tb rA rB rF rX rY qa qb W) (hP : PutR 50 W W' qa 50 r) : CmR w tb rA rB rF r rY qa qb W' := by
 have hn := h.ne
 exact ⟨h.b2.grown hP.grown (fun e => by injection e with e; omega), h.b3.grown hP.grown (fun e => by injection e with e; omega), h.bF.grown hP.grown (fun e => by injection e with e; omega), hP.blk, h.b7.grown hP.grown (fun e => by injection e with e; omega), below_grown h.bel hP.grown h.bel.size (by have := h.lo; omega), h.lo, h.ne⟩
theorem CmR.setY (h : CmR w tb rA rB rF rX rY qa qb W) (hP : PutR 50 W W' qb 50 r) : CmR w tb rA rB rF rX r qa qb W' := by
 have hn := h.ne
 exact ⟨h.b2.grown hP.grown (fun e => by injection e with e; omega), h.b3.grown hP.grown (fun e => by injection e with e; omega), h.bF.grown hP.grown (fun e => by injection e with e; omega), h.b6.grown hP.grown (fun e => by injection e with e; omega), hP.blk, below_grown h.bel hP.grown h.bel.size (by have := h.lo; omega), h.lo, h.ne⟩
theorem CmR.setH {qh : Nat} {t ty : TypeId} (h : CmR w tb rA rB rF rX rY qa qb W) (hP : PutR ty W W' qh t r) (h1 : tb + 1 + 1 < qh) (h2 : qh ≠ qa) (h3 : qh ≠ qb) : CmR w tb rA rB rF rX rY qa qb W' := by
 exact ⟨h.b2.grown hP.grown (fun e => by injection e with e; omega), h.b3.grown hP.grown (fun e => by injection e with e; omega), h.bF.grown hP.grown (fun e => by injection e with e; omega), h.b6.grown hP.grown (fun e => by injection e with e; omega), h.b7.grown hP.grown (fun e => by injection e with e; omega), below_grown h.bel hP.grown h.bel.size (by have := h.lo; omega), h.lo, h.ne⟩
end

set_option maxRecDepth 100000 in
set_option maxHeartbeats 20000000 in
theorem r32cmp_any (va : Vw.V) (da : Option Addr) (dn dc : Nat) (ha : Option Addr) (hn hc : Nat) (vb : Vw.V) (db : Option Addr) (bn bc : Nat) (hb : Option Addr) (bm bk : Nat) (w : World) (HA : VM w va da dn dc ha hn hc) (HB : VM w vb db bn bc hb bm bk) :
 Calls Tryz.prog 22 #[.agg #[.int .i64 va.st, .int .i64 va.fo, .int .i64 va.pub, .slice da dn dc, .slice ha hn hc], .agg #[.int .i64 vb.st, .int .i64 vb.fo, .int .i64 vb.pub, .slice db bn bc, .slice hb bm bk]] w (CmpPost (cmpV va vb) w) := by
 have HA' := Lib.hid HA; have HB' := Lib.hid HB
 have ln := HA.ds.len
 have lm := HB.ds.len
 have a63 := HA.bd
 have b63 := HB.bd
 clear HA HB
 obtain ⟨tb, htb⟩ : ∃ tb, Hid (w.heap.size = tb) := ⟨_, rfl⟩
 obtain ⟨W1, hW1⟩ : ∃ W1, W1 = ((w.alloc (.cells #[.int .i64 va.st, .int .i64 va.fo, .int .i64 va.pub, .slice da dn dc, .slice ha hn hc] 50)).alloc (.cells #[.int .i64 vb.st, .int .i64 vb.fo, .int .i64 vb.pub, .slice db bn bc, .slice hb bm bk] 50)).alloc (.cells zrF.toArray 53) := ⟨_, rfl⟩
 have e1 : (w.alloc (.cells #[.int .i64 va.st, .int .i64 va.fo, .int .i64 va.pub, .slice da dn dc, .slice ha hn hc] 50)).heap.size = tb + 1 := by rw [World.size_alloc, htb.out]
 have e2 : ((w.alloc (.cells #[.int .i64 va.st, .int .i64 va.fo, .int .i64 va.pub, .slice da dn dc, .slice ha hn hc] 50)).alloc (.cells #[.int .i64 vb.st, .int .i64 vb.fo, .int .i64 vb.pub, .slice db bn bc, .slice hb bm bk] 50)).heap.size = tb + 1 + 1 := by rw [World.size_alloc, e1]
 have h2 : Hid (Blk W1 tb 50 [.int .i64 va.st, .int .i64 va.fo, .int .i64 va.pub, .slice da dn dc, .slice ha hn hc]) := by rw [hW1, ← htb.out]; exact ((Blk.new w _ _).alloc _).alloc _
 have h3 : Hid (Blk W1 (tb + 1) 50 [.int .i64 vb.st, .int .i64 vb.fo, .int .i64 vb.pub, .slice db bn bc, .slice hb bm bk]) := by rw [hW1, ← e1]; exact (Blk.new _ _ _).alloc _
 have hF : Hid (Blk W1 (tb + 1 + 1) 53 zrF) := by rw [hW1, ← e2]; exact Blk.new _ _ _
 have hb1 : Hid (Below w.heap.size w W1) := by rw [hW1]; exact (((Below.refl _ w).alloc (Nat.le_refl _) _).alloc (by simp) _).alloc (by simp; omega) _
 clear e1 e2
 have zi := infoF okF0 none 0 0
 rw [show forkC zeroF none 0 0 = zrF from rfl] at zi
 have zone := Lib.hid (forkC_one okF0 none 0 0)
 rw [show forkC zeroF none 0 0 = zrF from rfl] at zone
 obtain ⟨X, hX⟩ : ∃ X, X = CmpPost (cmpV va vb) w := ⟨_, rfl⟩
 rw [← hX]
 have hX' := Lib.hid hX
 clear hX
 have hbad : Hid (cmpOk va vb = false → ∀ W, Below w.heap.size w W → X (.returned (.tuple #[.agg zrF.toArray, .bool false])) W) := fun h W hb => by
  rw [hX'.out]
  unfold cmpV
  rw [h]
  exact ⟨none, 0, 0, rfl, okF0, ds_nil W, by omega, hb⟩
 have hP : Hid (cmpOk va vb = (validB va && validB vb && decide (va.st = vb.st) && decide (va.fo = vb.fo) && decide (va.pub = vb.pub))) := rfl
 have hva : Hid (∀ W, VM W va da dn dc ha hn hc → Calls Tryz.prog 27 #[.agg #[.int .i64 va.st, .int .i64 va.fo, .int .i64 va.pub, .slice da dn dc, .slice ha hn hc]] W (RetI (checkV va) W)) := fun W h => r32check_any va da dn dc ha hn hc W h
 have hvb : Hid (∀ W, VM W vb db bn bc hb bm bk → Calls Tryz.prog 27 #[.agg #[.int .i64 vb.st, .int .i64 vb.fo, .int .i64 vb.pub, .slice db bn bc, .slice hb bm bk]] W (RetI (checkV vb) W)) := fun W h => r32check_any vb db bn bc hb bm bk W h
 obtain ⟨xa, exa⟩ : ∃ x, Hid (validB va = x) := ⟨_, rfl⟩
 obtain ⟨xb, exb⟩ : ∃ x, Hid (validB vb = x) := ⟨_, rfl⟩
 unfold checkV at hva hvb
 rw [exa.out] at hva hP
 rw [exb.out] at hvb hP
 clear exa exb
 go_enter Tryz.func22, Tryz.ntmps22
 go_upto_region 1 with fail
 rw [htb.out]
 generalize hWq : ((w.alloc _).alloc _).alloc _ = Wq
 obtain rfl : W1 = Wq := by rw [← hWq, hW1]; rfl
 clear hWq hW1
 have x0 := h2.out.at_ (i := 0) rfl
 have x1 := h2.out.at_ (i := 1) rfl
 have x2 := h2.out.at_ (i := 2) rfl
 have x3 := h2.out.at_ (i := 3) rfl
 have x4 := h2.out.at_ (i := 4) rfl
 go_wp2_with fail
 refine (hva.out _ (HA'.out.below hb1.out)).mono ?_
 rintro e w2 ⟨rfl, hz⟩
 replace h2 := Lib.hid (h2.out.below hz h2.out.lt)
 replace h3 := Lib.hid (h3.out.below hz h3.out.lt)
 replace hF := Lib.hid (hF.out.below hz hF.out.lt)
 replace hb1 := Lib.hid (hb1.out.trans (hz.mono hb1.out.size))
 clear hz
 clear x0 x1 x2 x3 x4 hva
 cases xa with
 | false =>
  rw [if_neg (by simp)]
  obtain ⟨W9, hQ⟩ := put_row (ty := 53) hF.out (x := zrF) rfl sizeF zone.out
  have hfin := Lib.hid (hbad.out (by rw [hP.out]; rfl) W9 (below_grown hb1.out hQ.grown hb1.out.size (by have := htb.out; omega)))
  have hblk := Lib.hid hQ.blk
  have hQ' := Lib.hid hQ
  clear hQ h2 h3 hF hb1
  have hbz := Lib.hid build_zrF
  generalize zrF = rf at *
  go_wp2_with (first
   | (refine wpList_build_run (by rfl) 53 _ rfl #[] (by simp) (hbz.out _) ?_)
    | (refine wpList_store_mid (by rfl) 53 _ _ (by rfl) (tb + 1 + 1) 0 (rf : List Value).toArray (by rfl) (by rfl) hQ'.out.there hQ'.out.info (by simpa using hQ'.out.one) ?_
       generalize hWq : World.setCells _ _ _ _ = Wa
       obtain rfl : W9 = Wa := by rw [← hWq]; exact hQ'.out.eq
       clear hWq))
  exact ret_cell_tmp (fn := Tryz.f22) (p := 4) (u := 5) rfl hblk.out Tryz.underlying53 rfl zi.out rfl rfl rfl hfin.out
 | true =>
  rw [if_pos rfl]
  have y0 := h3.out.at_ (i := 0) rfl
  have y1 := h3.out.at_ (i := 1) rfl
  have y2 := h3.out.at_ (i := 2) rfl
  have y3 := h3.out.at_ (i := 3) rfl
  have y4 := h3.out.at_ (i := 4) rfl
  go_wp2_with fail
  refine (hvb.out _ (HB'.out.below hb1.out)).mono ?_
  rintro e w3 ⟨rfl, hz⟩
  replace h2 := Lib.hid (h2.out.below hz h2.out.lt)
  replace h3 := Lib.hid (h3.out.below hz h3.out.lt)
  replace hF := Lib.hid (hF.out.below hz hF.out.lt)
  replace hb1 := Lib.hid (hb1.out.trans (hz.mono hb1.out.size))
  clear hz
  clear y0 y1 y2 y3 y4 hvb
  cases xb with
  | false =>
   rw [if_neg (by simp)]
   obtain ⟨W9, hQ⟩ := put_row (ty := 53) hF.out (x := zrF) rfl sizeF zone.out
   have hfin := Lib.hid (hbad.out (by rw [hP.out]; rfl) W9 (below_grown hb1.out hQ.grown hb1.out.size (by have := htb.out; omega)))
   have hblk := Lib.hid hQ.blk
   have hQ' := Lib.hid hQ
   clear hQ h2 h3 hF hb1
   have hbz := Lib.hid build_zrF
   generalize zrF = rf at *
   go_wp2_with (first
    | (refine wpList_build_run (by rfl) 53 _ rfl #[] (by simp) (hbz.out _) ?_)
     | (refine wpList_store_mid (by rfl) 53 _ _ (by rfl) (tb + 1 + 1) 0 (rf : List Value).toArray (by rfl) (by rfl) hQ'.out.there hQ'.out.info (by simpa using hQ'.out.one) ?_
        generalize hWq : World.setCells _ _ _ _ = Wa
        obtain rfl : W9 = Wa := by rw [← hWq]; exact hQ'.out.eq
        clear hWq))
   exact ret_cell_tmp (fn := Tryz.f22) (p := 4) (u := 5) rfl hblk.out Tryz.underlying53 rfl zi.out rfl rfl rfl hfin.out
  | true =>
   rw [if_pos rfl]
   have a0 := h2.out.at_ (i := 0) rfl
   have a1 := h2.out.at_ (i := 1) rfl
   have a2 := h2.out.at_ (i := 2) rfl
   have a3 := h2.out.at_ (i := 3) rfl
   have a4 := h2.out.at_ (i := 4) rfl
   have b0 := h3.out.at_ (i := 0) rfl
   have b1 := h3.out.at_ (i := 1) rfl
   have b2 := h3.out.at_ (i := 2) rfl
   have b3 := h3.out.at_ (i := 3) rfl
   have b4 := h3.out.at_ (i := 4) rfl
   by_cases e1 : va.st = vb.st
   case neg =>
    have g1 : (va.st != vb.st) = true := by simpa using e1
    have hbd := Lib.hid (show cmpOk va vb = false by rw [hP.out, decide_eq_false e1]; rfl)
    clear e1
    obtain ⟨W9, hQ⟩ := put_row (ty := 53) hF.out (x := zrF) rfl sizeF zone.out
    have hfin := Lib.hid (hbad.out hbd.out W9 (below_grown hb1.out hQ.grown hb1.out.size (by have := htb.out; omega)))
    have hblk := Lib.hid hQ.blk
    have hQ' := Lib.hid hQ
    clear hQ h2 h3 hF hb1
    have hbz := Lib.hid build_zrF
    generalize zrF = rf at *
    go_wp2_with (first
     | (refine wpList_build_run (by rfl) 53 _ rfl #[] (by simp) (hbz.out _) ?_)
      | (refine wpList_store_mid (by rfl) 53 _ _ (by rfl) (tb + 1 + 1) 0 (rf : List Value).toArray (by rfl) (by rfl) hQ'.out.there hQ'.out.info (by simpa using hQ'.out.one) ?_
         generalize hWq : World.setCells _ _ _ _ = Wa
         obtain rfl : W9 = Wa := by rw [← hWq]; exact hQ'.out.eq
         clear hWq))
    exact ret_cell_tmp (fn := Tryz.f22) (p := 4) (u := 5) rfl hblk.out Tryz.underlying53 rfl zi.out rfl rfl rfl hfin.out
   case pos =>
   have g1 : (va.st != vb.st) = false := by simpa using e1
   by_cases e2 : va.fo = vb.fo
   case neg =>
    have g2 : (va.fo != vb.fo) = true := by simpa using e2
    have hbd := Lib.hid (show cmpOk va vb = false by rw [hP.out, decide_eq_false e2, decide_eq_true e1]; rfl)
    clear e1 e2
    obtain ⟨W9, hQ⟩ := put_row (ty := 53) hF.out (x := zrF) rfl sizeF zone.out
    have hfin := Lib.hid (hbad.out hbd.out W9 (below_grown hb1.out hQ.grown hb1.out.size (by have := htb.out; omega)))
    have hblk := Lib.hid hQ.blk
    have hQ' := Lib.hid hQ
    clear hQ h2 h3 hF hb1
    have hbz := Lib.hid build_zrF
    generalize zrF = rf at *
    go_wp2_with (first
     | (refine wpList_build_run (by rfl) 53 _ rfl #[] (by simp) (hbz.out _) ?_)
      | (refine wpList_store_mid (by rfl) 53 _ _ (by rfl) (tb + 1 + 1) 0 (rf : List Value).toArray (by rfl) (by rfl) hQ'.out.there hQ'.out.info (by simpa using hQ'.out.one) ?_
         generalize hWq : World.setCells _ _ _ _ = Wa
         obtain rfl : W9 = Wa := by rw [← hWq]; exact hQ'.out.eq
         clear hWq))
    exact ret_cell_tmp (fn := Tryz.f22) (p := 4) (u := 5) rfl hblk.out Tryz.underlying53 rfl zi.out rfl rfl rfl hfin.out
   case pos =>
   have g2 : (va.fo != vb.fo) = false := by simpa using e2
   by_cases e3 : va.pub = vb.pub
   case neg =>
    have g3 : (va.pub != vb.pub) = true := by simpa using e3
    have hbd := Lib.hid (show cmpOk va vb = false by rw [hP.out, decide_eq_false e3, decide_eq_true e1, decide_eq_true e2]; rfl)
    clear e1 e2 e3
    obtain ⟨W9, hQ⟩ := put_row (ty := 53) hF.out (x := zrF) rfl sizeF zone.out
    have hfin := Lib.hid (hbad.out hbd.out W9 (below_grown hb1.out hQ.grown hb1.out.size (by have := htb.out; omega)))
    have hblk := Lib.hid hQ.blk
    have hQ' := Lib.hid hQ
    clear hQ h2 h3 hF hb1
    have hbz := Lib.hid build_zrF
    generalize zrF = rf at *
    go_wp2_with (first
     | (refine wpList_build_run (by rfl) 53 _ rfl #[] (by simp) (hbz.out _) ?_)
      | (refine wpList_store_mid (by rfl) 53 _ _ (by rfl) (tb + 1 + 1) 0 (rf : List Value).toArray (by rfl) (by rfl) hQ'.out.there hQ'.out.info (by simpa using hQ'.out.one) ?_
         generalize hWq : World.setCells _ _ _ _ = Wa
         obtain rfl : W9 = Wa := by rw [← hWq]; exact hQ'.out.eq
         clear hWq))
    exact ret_cell_tmp (fn := Tryz.f22) (p := 4) (u := 5) rfl hblk.out Tryz.underlying53 rfl zi.out rfl rfl rfl hfin.out
   case pos =>
   have g3 : (va.pub != vb.pub) = false := by simpa using e3
   have hspec : Hid (cmpV va vb = if va.ds.length < vb.ds.length then cmp2 vb va else cmp2 va vb) := by
    show _ = _
    unfold cmpV
    rw [hP.out, decide_eq_true e1, decide_eq_true e2, decide_eq_true e3]
    rfl
   clear e1 e2 e3 hP hbad
   go_wp2_with fail
   refine share (G := ∀ (q2 : Nat) (q3 : Nat) (WZ : World), (Below w3.heap.size w3 WZ) → (Blk WZ q2 50 ([.int .i64 va.st, .int .i64 va.fo, .int .i64 va.pub, .slice da dn dc, .slice ha hn hc])) → (w3.heap.size ≤ q2) → (Blk WZ q3 50 ([.int .i64 vb.st, .int .i64 vb.fo, .int .i64 vb.pub, .slice db bn bc, .slice hb bm bk])) → (w3.heap.size ≤ q3) → (q2 ≠ q3) → (?GfinR3 : Nat → Nat → World → Prop) q2 q3 WZ) ?hfinR3 ?kfinR3
   case' hfinR3 =>
    intro KfinR3
   case' hfinR3 =>
    refine share (G := ∀ (q2 : Nat) (q3 : Nat) (WZ : World), (Below w3.heap.size w3 WZ) → (Blk WZ q2 50 ([.int .i64 va.st, .int .i64 va.fo, .int .i64 va.pub, .slice da dn dc, .slice ha hn hc])) → (w3.heap.size ≤ q2) → (Blk WZ q3 50 (zrV)) → (w3.heap.size ≤ q3) → (q2 ≠ q3) → (?Gs1_2_3_R3 : Nat → Nat → World → Prop) q2 q3 WZ) ?hs1_2_3_R3 ?ks1_2_3_R3
   case' hs1_2_3_R3 => intro Ks1_2_3_R3
   case' hs1_2_3_R3 =>
    refine share (G := ∀ (q2 : Nat) (q3 : Nat) (WZ : World), (Below w3.heap.size w3 WZ) → (Blk WZ q2 50 (zrV)) → (w3.heap.size ≤ q2) → (Blk WZ q3 50 (zrV)) → (w3.heap.size ≤ q3) → (q2 ≠ q3) → (?Gs0_2_3_R3 : Nat → Nat → World → Prop) q2 q3 WZ) ?hs0_2_3_R3 ?ks0_2_3_R3
   case' hs0_2_3_R3 => intro Ks0_2_3_R3
   case' hs0_2_3_R3 =>
    refine share (G := ∀ (q2 : Nat) (WZ : World), (Below w3.heap.size w3 WZ) → (Blk WZ q2 50 (zrV)) → (w3.heap.size ≤ q2) → (?Gs0_2_R3 : Nat → World → Prop) q2 WZ) ?hs0_2_R3 ?ks0_2_R3
   case' hs0_2_R3 => intro Ks0_2_R3
   case' hs0_2_R3 =>
    refine share (G := ∀ (q3 : Nat) (WZ : World), (Below w3.heap.size w3 WZ) → (Blk WZ q3 50 (zrV)) → (w3.heap.size ≤ q3) → (?Gs0_3_R3 : Nat → World → Prop) q3 WZ) ?hs0_3_R3 ?ks0_3_R3
   case' hs0_3_R3 => intro Ks0_3_R3
   case hs0_3_R3 =>
    refine wp_region_held_drew (S := fun wz => Below w3.heap.size w3 wz) (by kernel_rfl) ((Below.refl _ w3).drew) (fun hHeld => ?_)
    generalize w3.drew = WZ at *
    refine tG 0 (v := ?_) rfl (Or.inl ⟨by rfl, ?_⟩) hHeld ?_
    rotate_left
    · intro wz hSw
      have q0 := (h2.out.below hSw h2.out.lt).at_ (i := 0) rfl
      have q1 := (h2.out.below hSw h2.out.lt).at_ (i := 1) rfl
      have q2 := (h2.out.below hSw h2.out.lt).at_ (i := 2) rfl
      have q3 := (h2.out.below hSw h2.out.lt).at_ (i := 3) rfl
      have q4 := (h2.out.below hSw h2.out.lt).at_ (i := 4) rfl
      go_simp
      all_goals (with_reducible rfl)
    try simp only [Act.put, sA, s0, s1]
    refine tG 1 (v := ?_) rfl (Or.inl ⟨by rfl, ?_⟩) hHeld ?_
    rotate_left
    · intro wz hSw
      have q0 := (h3.out.below hSw h3.out.lt).at_ (i := 0) rfl
      have q1 := (h3.out.below hSw h3.out.lt).at_ (i := 1) rfl
      have q2 := (h3.out.below hSw h3.out.lt).at_ (i := 2) rfl
      have q3 := (h3.out.below hSw h3.out.lt).at_ (i := 3) rfl
      have q4 := (h3.out.below hSw h3.out.lt).at_ (i := 4) rfl
      go_simp
      all_goals (with_reducible rfl)
    try simp only [Act.put, sA, s0, s1]
    refine rd (rs := [2, 3]) ?_
    refine tR rfl (fun K hK => ?_) (tR rfl (fun K hK => ?_) rn)
    case refine_1 =>
     go_simp
     refine hK.out _ _ (hHeld.alloc hHeld.size _) (fun hHeld2 => ?_)
     clear hK K
     try simp only [Act.put, sA, s0, s1]
     generalize hW2 : World.alloc WZ _ = W2
     rw [hW2] at hHeld2
     generalize hq : WZ.heap.size = q2
     have hBn : Blk W2 q2 50 (zrV) := by rw [← hW2, ← hq]; exact Blk.new _ _ _
     have hLn := hHeld.size
     rw [hq] at hLn
     clear hW2 hq
     exact Ks0_2_R3 q2 W2 (hHeld2) (hBn) (hLn)
    case refine_2 =>
     go_simp
     refine hK.out _ _ (hHeld.alloc hHeld.size _) (fun hHeld2 => ?_)
     clear hK K
     try simp only [Act.put, sA, s0, s1]
     generalize hW2 : World.alloc WZ _ = W2
     rw [hW2] at hHeld2
     generalize hq : WZ.heap.size = q3
     have hBn : Blk W2 q3 50 (zrV) := by rw [← hW2, ← hq]; exact Blk.new _ _ _
     have hLn := hHeld.size
     rw [hq] at hLn
     clear hW2 hq
     exact Ks0_3_R3 q3 W2 (hHeld2) (hBn) (hLn)
   case ks0_3_R3 =>
    intro q3 WZ hHeld hB3 hL3
    refine tO 2 rfl (fun K hK => ?_)
    go_simp
    refine hK.out _ _ (hHeld.alloc hHeld.size _) (fun hHeld2 => ?_)
    clear hK K
    try simp only [Act.put, sA, s0, s1]
    generalize hW2 : World.alloc WZ _ = W2
    rw [hW2] at hHeld2
    generalize hq : WZ.heap.size = q2
    have hBn : Blk W2 q2 50 (zrV) := by rw [← hW2, ← hq]; exact Blk.new _ _ _
    have hLn := hHeld.size
    rw [hq] at hLn
    have hB3' : Blk W2 q3 50 (zrV) := by rw [← hW2]; exact hB3.alloc _
    have hN3' := hB3.lt
    rw [hq] at hN3'
    clear hW2 hq
    exact Ks0_2_3_R3 q2 q3 W2 (hHeld2) (hBn) (hLn) (hB3') (hL3) ((by omega))
   case ks0_2_R3 =>
    intro q2 WZ hHeld hB2 hL2
    refine tO 3 rfl (fun K hK => ?_)
    go_simp
    refine hK.out _ _ (hHeld.alloc hHeld.size _) (fun hHeld2 => ?_)
    clear hK K
    try simp only [Act.put, sA, s0, s1]
    generalize hW2 : World.alloc WZ _ = W2
    rw [hW2] at hHeld2
    generalize hq : WZ.heap.size = q3
    have hBn : Blk W2 q3 50 (zrV) := by rw [← hW2, ← hq]; exact Blk.new _ _ _
    have hLn := hHeld.size
    rw [hq] at hLn
    have hB2' : Blk W2 q2 50 (zrV) := by rw [← hW2]; exact hB2.alloc _
    have hN2' := hB2.lt
    rw [hq] at hN2'
    clear hW2 hq
    exact Ks0_2_3_R3 q2 q3 W2 (hHeld2) (hB2') (hL2) (hBn) (hLn) ((by omega))
   case ks0_2_3_R3 =>
    intro q2 q3 WZ hHeld hB2 hL2 hB3 hL3 hN2_3
    refine rd (rs := [4]) ?_
    refine AllReadyH.cons (o := ⟨none, .store 50 (.tmp 6) (.tmp 40), 0, "ref.go:116", #[⟨2, .data⟩, ⟨0, .data⟩, ⟨0, .phase⟩, ⟨1, .textOnly .lateStores⟩, ⟨2, .phase⟩, ⟨3, .phase⟩], none⟩) rfl (fun K hK => ?_) AllReadyH.nil
    obtain ⟨W3, hQ⟩ := put_row (ty := 50) hB2 (x := [.int .i64 va.st, .int .i64 va.fo, .int .i64 va.pub, .slice da dn dc, .slice ha hn hc]) (rfl) (sizeVw) (view_one _ _ _ _ _ _ _ _ _)
    have hHeld2 := below_grown hHeld hQ.grown hHeld.size hL2
    rw [if_pos (by rfl)]
    refine wp_store_mid 50 _ _ rfl q2 0 ([.int .i64 va.st, .int .i64 va.fo, .int .i64 va.pub, .slice da dn dc, .slice ha hn hc] : List Value).toArray (by rfl) (by rfl) hQ.there hQ.info (by simpa using hQ.one) ?_
    generalize hWq : World.setCells _ _ _ _ = Wa
    obtain rfl : W3 = Wa := by rw [← hWq]; exact hQ.eq
    clear hWq
    refine hK.out _ _ hHeld2 (fun _ => ?_)
    clear hK K
    try simp only [Act.put]
    exact Ks1_2_3_R3 q2 q3 W3 (hHeld2) (hQ.blk) (hL2) (hB3.grown hQ.grown (fun e => by injection e with e; exact hN2_3 e.symm)) (hL3) (hN2_3)
   case ks1_2_3_R3 =>
    intro q2 q3 WZ hHeld hB2 hL2 hB3 hL3 hN2_3
    refine rd (rs := [5]) ?_
    refine AllReadyH.cons (o := ⟨none, .store 50 (.tmp 7) (.tmp 41), 0, "ref.go:116", #[⟨3, .data⟩, ⟨1, .data⟩, ⟨4, .chain⟩, ⟨0, .phase⟩, ⟨1, .phase⟩, ⟨2, .phase⟩, ⟨3, .phase⟩, ⟨4, .phase⟩], none⟩) rfl (fun K hK => ?_) AllReadyH.nil
    obtain ⟨W3, hQ⟩ := put_row (ty := 50) hB3 (x := [.int .i64 vb.st, .int .i64 vb.fo, .int .i64 vb.pub, .slice db bn bc, .slice hb bm bk]) (rfl) (sizeVw) (view_one _ _ _ _ _ _ _ _ _)
    have hHeld2 := below_grown hHeld hQ.grown hHeld.size hL3
    rw [if_pos (by rfl)]
    refine wp_store_mid 50 _ _ rfl q3 0 ([.int .i64 vb.st, .int .i64 vb.fo, .int .i64 vb.pub, .slice db bn bc, .slice hb bm bk] : List Value).toArray (by rfl) (by rfl) hQ.there hQ.info (by simpa using hQ.one) ?_
    generalize hWq : World.setCells _ _ _ _ = Wa
    obtain rfl : W3 = Wa := by rw [← hWq]; exact hQ.eq
    clear hWq
    refine hK.out _ _ hHeld2 (fun _ => ?_)
    clear hK K
    try simp only [Act.put]
    refine wpAnyH_done (by kernel_rfl) ?_ _
    exact KfinR3 q2 q3 W3 (hHeld2) (hB2.grown hQ.grown (fun e => by injection e with e; exact hN2_3 e)) (hL2) (hQ.blk) (hL3) (hN2_3)
   case kfinR3 =>
    intro qa qb W hHeld hba hla hbb hlb hnq
    have hB3 : Hid (CmR w tb [.int .i64 va.st, .int .i64 va.fo, .int .i64 va.pub, .slice da dn dc, .slice ha hn hc] [.int .i64 vb.st, .int .i64 vb.fo, .int .i64 vb.pub, .slice db bn bc, .slice hb bm bk] zrF [.int .i64 va.st, .int .i64 va.fo, .int .i64 va.pub, .slice da dn dc, .slice ha hn hc] [.int .i64 vb.st, .int .i64 vb.fo, .int .i64 vb.pub, .slice db bn bc, .slice hb bm bk] qa qb W) := ⟨h2.out.below hHeld h2.out.lt, h3.out.below hHeld h3.out.lt, hF.out.below hHeld hF.out.lt, hba, hbb, hb1.out.trans (hHeld.mono hb1.out.size), Nat.le_of_eq htb.out, hnq, by have := hF.out.lt; omega, by have := hF.out.lt; omega⟩
    clear h2 h3 hF hb1 hHeld hba hla hbb hlb hnq
    have a0 := hB3.out.b2.at_ (i := 0) rfl
    have a1 := hB3.out.b2.at_ (i := 1) rfl
    have a2 := hB3.out.b2.at_ (i := 2) rfl
    have a3 := hB3.out.b2.at_ (i := 3) rfl
    have a4 := hB3.out.b2.at_ (i := 4) rfl
    have b0 := hB3.out.b3.at_ (i := 0) rfl
    have b1 := hB3.out.b3.at_ (i := 1) rfl
    have b2 := hB3.out.b3.at_ (i := 2) rfl
    have b3 := hB3.out.b3.at_ (i := 3) rfl
    have b4 := hB3.out.b3.at_ (i := 4) rfl
    by_cases hlt : dn < bn
    case pos =>
     have g4 : decide (dn < bn) = true := decide_eq_true hlt
     have g5 : decide ((dn : Int) < (bn : Int)) = true := decide_eq_true (by omega)
     have hsp : Hid (cmpV va vb = _) := hspec.out.trans ((if_pos (by rw [ln, lm]; exact hlt)).trans (cmp2_R vb va))
     clear hspec hlt ln lm
     have hB3d : Hid (CmR w tb [.int .i64 va.st, .int .i64 va.fo, .int .i64 va.pub, .slice da dn dc, .slice ha hn hc] [.int .i64 vb.st, .int .i64 vb.fo, .int .i64 vb.pub, .slice db bn bc, .slice hb bm bk] zrF [.int .i64 va.st, .int .i64 va.fo, .int .i64 va.pub, .slice da dn dc, .slice ha hn hc] [.int .i64 vb.st, .int .i64 vb.fo, .int .i64 vb.pub, .slice db bn bc, .slice hb bm bk] qa qb W.drew) := hB3.out.below ((Below.refl _ W).drew)
     obtain ⟨W6, hQ⟩ := put_row (ty := 50) hB3d.out.b6 (x := [.int .i64 vb.st, .int .i64 vb.fo, .int .i64 vb.pub, .slice db bn bc, .slice hb bm bk]) rfl sizeVw (view_one _ _ _ _ _ _ _ _ _)
     have hB6 := Lib.hid (hB3d.out.setX hQ)
     obtain ⟨W7, hS⟩ := put_row (ty := 50) hB6.out.b7 (x := [.int .i64 va.st, .int .i64 va.fo, .int .i64 va.pub, .slice da dn dc, .slice ha hn hc]) rfl sizeVw (view_one _ _ _ _ _ _ _ _ _)
     have hB7 := Lib.hid (hB6.out.setY hS)
     have hQ' := Lib.hid hQ
     have hS' := Lib.hid hS
     clear hQ hS
     go_upto_region 5 with fail
     refine wp_region_held_drew (S := fun wz => Blk wz tb 50 [.int .i64 va.st, .int .i64 va.fo, .int .i64 va.pub, .slice da dn dc, .slice ha hn hc] ∧ Blk wz (tb + 1) 50 [.int .i64 vb.st, .int .i64 vb.fo, .int .i64 vb.pub, .slice db bn bc, .slice hb bm bk]) (by kernel_rfl) (⟨hB3d.out.b2, hB3d.out.b3⟩) (fun hHeld => ?_)
     generalize W.drew = Wd at *
     refine tG 0 (v := ?_) rfl (Or.inl ⟨by rfl, ?_⟩) hHeld ?_
     rotate_left
     · intro wz hSw
       have q0 := hSw.2.at_ (i := 0) rfl
       have q1 := hSw.2.at_ (i := 1) rfl
       have q2 := hSw.2.at_ (i := 2) rfl
       have q3 := hSw.2.at_ (i := 3) rfl
       have q4 := hSw.2.at_ (i := 4) rfl
       go_simp
       all_goals (with_reducible rfl)
     try simp only [Act.put, sA, s0, s1]
     refine tG 1 (v := ?_) rfl (Or.inl ⟨by rfl, ?_⟩) hHeld ?_
     rotate_left
     · intro wz hSw
       have q0 := hSw.1.at_ (i := 0) rfl
       have q1 := hSw.1.at_ (i := 1) rfl
       have q2 := hSw.1.at_ (i := 2) rfl
       have q3 := hSw.1.at_ (i := 3) rfl
       have q4 := hSw.1.at_ (i := 4) rfl
       go_simp
       all_goals (with_reducible rfl)
     try simp only [Act.put, sA, s0, s1]
     refine tO 2 rfl (fun K hK => ?_)
     refine wp_store_mid 50 _ _ rfl qa 0 ([.int .i64 vb.st, .int .i64 vb.fo, .int .i64 vb.pub, .slice db bn bc, .slice hb bm bk] : List Value).toArray (by rfl) (by rfl) hQ'.out.there hQ'.out.info (by simpa using hQ'.out.one) ?_
     generalize hWq : World.setCells _ _ _ _ = Wa
     obtain rfl : W6 = Wa := by rw [← hWq]; exact hQ'.out.eq
     clear hWq
     refine hK.out _ _ ⟨hB6.out.b2, hB6.out.b3⟩ (fun hHeld2 => ?_)
     clear hHeld
     have hHeld := hHeld2
     clear hHeld2
     clear hK K
     try simp only [Act.put]
     refine tO 3 rfl (fun K hK => ?_)
     refine wp_store_mid 50 _ _ rfl qb 0 ([.int .i64 va.st, .int .i64 va.fo, .int .i64 va.pub, .slice da dn dc, .slice ha hn hc] : List Value).toArray (by rfl) (by rfl) hS'.out.there hS'.out.info (by simpa using hS'.out.one) ?_
     generalize hWq : World.setCells _ _ _ _ = Wa
     obtain rfl : W7 = Wa := by rw [← hWq]; exact hS'.out.eq
     clear hWq
     refine hK.out _ _ ⟨hB7.out.b2, hB7.out.b3⟩ (fun hHeld2 => ?_)
     clear hHeld
     have hHeld := hHeld2
     clear hHeld2
     clear hK K
     try simp only [Act.put]
     refine wpAnyH_done (by kernel_rfl) ?_ _
     clear hHeld
     clear hQ' hS' hB3 hB3d hB6 a0 a1 a2 a3 a4 b0 b1 b2 b3 b4 g1 g2 g3 g4 g5
     have hod := Lib.hid (fun W h1 h2 => r32odd_any ha hn hc va.hs db bn bc vb.ds W h1 h2 HB'.out.bd)
     have hod2 := Lib.hid (fun W h1 h2 => r32odd_any hb bm bk vb.hs da dn dc va.ds W h1 h2 HA'.out.bd)
     have okO := Lib.hid (oddR_ok HA'.out.hs vb.ds)
     have okP := Lib.hid (oddR_ok HB'.out.hs va.ds)
     have hlx := Lib.hid (fun W h => r32last_any hb bm bk vb.hs W h)
     have hly := Lib.hid (fun W h => r32last_any ha hn hc va.hs W h)
     obtain ⟨AC, eAC⟩ : ∃ x, Hid (oddR va.hs vb.ds = x) := ⟨_, rfl⟩
     obtain ⟨AD, eAD⟩ : ∃ x, Hid (oddR vb.hs va.ds = x) := ⟨_, rfl⟩
     rw [eAC.out] at hod hsp okO
     rw [eAD.out] at hod2 hsp okP
     clear eAC eAD
     obtain ⟨oh, ob⟩ := AC
     obtain ⟨ph, pb⟩ := AD
     simp only [] at hsp okO okP
     have x3 := hB7.out.b6.at_ (i := 3) rfl
     have y4 := hB7.out.b7.at_ (i := 4) rfl
     go_wp2_with fail
     refine (hod.out _ (HA'.out.hs.below hB7.out.bel) (HB'.out.ds.below hB7.out.bel)).mono ?_
     rintro e w5 ⟨rfl, hb5⟩
     have hB5 := Lib.hid (hB7.out.below hb5)
     simp only []
     obtain ⟨qh, hqh⟩ : ∃ q, Hid (w5.heap.size = q) := ⟨_, rfl⟩
     obtain ⟨W9, hQ⟩ := put_row (ty := 36) (Blk.new w5 36 zrH) (x := hdC oh) (by rw [hdC_len okO.out]; rfl) (infoHd okO.out).out (hdC_r okO.out).one
     have hBq := Lib.hid (hB5.out.below (below_grown ((Below.refl _ w5).alloc (Nat.le_refl _) _) hQ.grown (by simp) (Nat.le_refl _)))
     have hHq : Hid (Blk W9 qh 36 (hdC oh)) := by rw [← hqh.out]; exact hQ.blk
     have hn1 : tb + 1 + 1 < qh := by rw [← hqh.out]; exact hB5.out.bF.lt
     have hn2 : qa < qh := by rw [← hqh.out]; exact hB5.out.b6.lt
     have hn3 : qb < qh := by rw [← hqh.out]; exact hB5.out.b7.lt
     have hQ' := Lib.hid hQ
     rw [hqh.out] at hQ'
     have hri := infoHd okO.out
     have hrl0 := Lib.hid (hdC_len okO.out)
     obtain ⟨rh, hrh⟩ : ∃ r, Hid (hdC oh = r) := ⟨_, rfl⟩
     rw [hrh.out] at hHq hQ' hri hrl0 ⊢
     clear hQ hB5 hb5 hB7 x3 y4 hod
     go_upto_region 7 with (first
      | (rw [hqh.out]
         refine wpList_store_mid (by rfl) 36 _ _ (by rfl) qh 0 (rh : List Value).toArray (by rfl) (by rfl) hQ'.out.there hQ'.out.info (by simpa using hQ'.out.one) ?_
         generalize hWq : World.setCells _ _ _ _ = Wa
         obtain rfl : W9 = Wa := by rw [← hWq]; exact hQ'.out.eq
         clear hWq))
     try simp only [Act.put]
     clear hQ' hqh
     cases ob with
     | true =>
      have hsp2 : Hid (cmpV va vb = (⟨oh, lastH vb.hs, vb.ds⟩, true)) := by show _ = _; rw [hsp.out, if_pos rfl]
      clear hsp hod2 hly
      have hfin0 : Hid (∀ W, Below w.heap.size w W → X (.returned (.tuple #[.agg (forkC ⟨oh, lastH vb.hs, vb.ds⟩ db bn bc).toArray, .bool true])) W) := fun W hbW => by
       rw [hX'.out, hsp2.out]
       exact ⟨db, bn, bc, rfl, ⟨okO.out, (HS.last HB'.out.hs)⟩, HB'.out.ds.below hbW, HB'.out.bd, hbW⟩
      have okf : OkF ⟨oh, lastH vb.hs, vb.ds⟩ := ⟨okO.out, (HS.last HB'.out.hs)⟩
      have hfb := Lib.hid (fun W => fork_build okO.out (HS.last HB'.out.hs) vb.ds db bn bc W)
      have hfl := Lib.hid (forkC_len okf db bn bc)
      have hfo := Lib.hid (forkC_one okf db bn bc)
      have fi := infoF okf db bn bc
      rw [hrh.out] at hfb
      obtain ⟨rl, hrl⟩ : ∃ r, Hid (hdC (lastH vb.hs) = r) := ⟨_, rfl⟩
      unfold HdPost at hlx
      rw [hrl.out] at hfb hlx
      generalize forkC ⟨oh, lastH vb.hs, vb.ds⟩ db bn bc = rf at *
      clear okf hrl hsp2
      go_wp2_with fail
      have hA7 := hBq.out.below ((Below.refl _ W9).drew)
      have hH7 : Blk W9.drew qh 36 rh := hHq.out
      clear hBq hHq
      refine wp_region_held_drew (S := fun wz => Blk wz qh 36 rh ∧ Blk wz qa 50 [.int .i64 vb.st, .int .i64 vb.fo, .int .i64 vb.pub, .slice db bn bc, .slice hb bm bk] ∧ Below w.heap.size w wz) (by kernel_rfl) (⟨hH7, hA7.b6, hA7.bel⟩) (fun hHeld => ?_)
      generalize W9.drew = Wd at *
      refine tY 0 rfl qh 0 (rh) (fun wz h => h.1.range) Tryz.underlying36 hri.out hHeld ?_
      refine tQ 1 rfl hHeld ?_
      refine tX 2 rfl (fun wz hSw => hSw.2.1.at_ (i := 4) rfl) hHeld ?_
      refine tQ 4 rfl hHeld ?_
      refine tX 5 rfl (fun wz hSw => hSw.2.1.at_ (i := 3) rfl) hHeld ?_
      refine tO 3 rfl (fun K hK => ?_)
      go_simp
      go_at_call 52
      refine (hlx.out _ (HB'.out.hs.below hHeld.2.2)).mono ?_
      rintro e8 W8 ⟨rfl, hz⟩
      replace hA7 := hA7.below hz
      have hHeld8 := And.intro (hHeld.1.below hz hHeld.1.lt) (And.intro (hHeld.2.1.below hz hHeld.2.1.lt) (hHeld.2.2.trans (hz.mono hHeld.2.2.size)))
      refine hK.out _ _ hHeld8 (fun hHeld2 => ?_)
      clear hHeld hHeld8 hz
      have hHeld := hHeld2
      clear hHeld2
      clear hK K
      try simp only [Act.put, sA, s0, s1]
      refine tU 6 rfl #[(0, .agg rh.toArray), (1, .agg rl.toArray), (2, .slice db bn bc)] hfb.out hHeld ?_
      obtain ⟨W9, hQ⟩ := put_row (ty := 53) hA7.bF (x := rf) (by rw [hfl.out]; rfl) (by rw [hfl.out]; exact sizeF) hfo.out
      have hA9 := hA7.setF hQ
      have hH9 := hHeld.1.grown hQ.grown (fun e => by injection e with e; omega)
      have hfin := Lib.hid (hfin0.out W9 hA9.bel)
      have hblk := Lib.hid hA9.bF
      have hQ' := Lib.hid hQ
      clear hQ
      refine tO 7 rfl (fun K hK => ?_)
      refine wp_store_mid 53 _ _ rfl (tb + 1 + 1) 0 rf.toArray (by rfl) (by rfl) hQ'.out.there hQ'.out.info (by simpa using hQ'.out.one) ?_
      generalize hWq : World.setCells _ _ _ _ = Wa
      obtain rfl : W9 = Wa := by rw [← hWq]; exact hQ'.out.eq
      clear hWq
      refine hK.out _ _ ⟨hH9, hA9.b6, hA9.bel⟩ (fun hHeld2 => ?_)
      clear hHeld hH9 hA9 hA7
      have hHeld := hHeld2
      clear hHeld2
      clear hK K
      try simp only [Act.put]
      refine tQ 8 rfl hHeld ?_
      refine wpAnyH_done (by kernel_rfl) ?_ _
      clear hHeld
      go_wp2_with fail
      exact ret_cell_tmp (fn := Tryz.f22) (p := 4) (u := 5) rfl hblk.out Tryz.underlying53 rfl fi.out rfl rfl rfl hfin.out
     | false =>
      have hsp2 : Hid (cmpV va vb = if pb = true then (⟨ph, lastH va.hs, va.ds⟩, true) else (zeroF, false)) := by show _ = _; rw [hsp.out, if_neg (by simp)]
      clear hsp hlx
      have x4 := hBq.out.b6.at_ (i := 4) rfl
      have y3 := hBq.out.b7.at_ (i := 3) rfl
      go_wp2_with fail
      refine (hod2.out _ (HB'.out.hs.below hBq.out.bel) (HA'.out.ds.below hBq.out.bel)).mono ?_
      rintro e w6 ⟨rfl, hb6⟩
      have hB6 := Lib.hid (hBq.out.below hb6)
      have hH6 := Lib.hid (hHq.out.below hb6 hHq.out.lt)
      clear hBq hHq hb6 x4 y3 hod2 hri hrh okO oh
      simp only []
      obtain ⟨W8, hQ⟩ := put_row (ty := 36) hH6.out (x := hdC ph) (by rw [hdC_len okP.out, hrl0.out]) (infoHd okP.out).out (hdC_r okP.out).one
      have hBq := Lib.hid (hB6.out.setH hQ hn1 (by omega) (by omega))
      have hHq := Lib.hid hQ.blk
      have hQ' := Lib.hid hQ
      have hri := infoHd okP.out
      obtain ⟨oh, hoh⟩ : ∃ h, ph = h := ⟨_, rfl⟩
      subst hoh
      clear hrl0
      obtain ⟨r2, hrh⟩ : ∃ r, Hid (hdC ph = r) := ⟨_, rfl⟩
      rw [hrh.out] at hHq hQ' hri ⊢
      clear hQ hB6 hH6
      go_upto_region 10 with (first
       | (refine wpList_store_mid (by rfl) 36 _ _ (by rfl) qh 0 (r2 : List Value).toArray (by rfl) (by rfl) hQ'.out.there hQ'.out.info (by simpa using hQ'.out.one) ?_
          generalize hWq : World.setCells _ _ _ _ = Wa
          obtain rfl : W8 = Wa := by rw [← hWq]; exact hQ'.out.eq
          clear hWq))
      try simp only [Act.put]
      clear hQ'
      cases pb with
      | true =>
       have hsp3 : Hid (cmpV va vb = (⟨ph, lastH va.hs, va.ds⟩, true)) := by show _ = _; rw [hsp2.out, if_pos rfl]
       clear hsp2
       have hfin0 : Hid (∀ W, Below w.heap.size w W → X (.returned (.tuple #[.agg (forkC ⟨ph, lastH va.hs, va.ds⟩ da dn dc).toArray, .bool true])) W) := fun W hbW => by
        rw [hX'.out, hsp3.out]
        exact ⟨da, dn, dc, rfl, ⟨okP.out, (HS.last HA'.out.hs)⟩, HA'.out.ds.below hbW, HA'.out.bd, hbW⟩
       have okf : OkF ⟨ph, lastH va.hs, va.ds⟩ := ⟨okP.out, (HS.last HA'.out.hs)⟩
       have hfb := Lib.hid (fun W => fork_build okP.out (HS.last HA'.out.hs) va.ds da dn dc W)
       have hfl := Lib.hid (forkC_len okf da dn dc)
       have hfo := Lib.hid (forkC_one okf da dn dc)
       have fi := infoF okf da dn dc
       rw [hrh.out] at hfb
       obtain ⟨rl, hrl⟩ : ∃ r, Hid (hdC (lastH va.hs) = r) := ⟨_, rfl⟩
       unfold HdPost at hly
       rw [hrl.out] at hfb hly
       generalize forkC ⟨ph, lastH va.hs, va.ds⟩ da dn dc = rf at *
       clear okf hrl hsp3
       go_wp2_with fail
       have hA7 := hBq.out.below ((Below.refl _ W8).drew)
       have hH7 : Blk W8.drew qh 36 r2 := hHq.out
       clear hBq hHq
       refine wp_region_held_drew (S := fun wz => Blk wz qh 36 r2 ∧ Blk wz qb 50 [.int .i64 va.st, .int .i64 va.fo, .int .i64 va.pub, .slice da dn dc, .slice ha hn hc] ∧ Below w.heap.size w wz) (by kernel_rfl) (⟨hH7, hA7.b7, hA7.bel⟩) (fun hHeld => ?_)
       generalize W8.drew = Wd at *
       refine tY 0 rfl qh 0 (r2) (fun wz h => h.1.range) Tryz.underlying36 hri.out hHeld ?_
       refine tQ 1 rfl hHeld ?_
       refine tX 2 rfl (fun wz hSw => hSw.2.1.at_ (i := 4) rfl) hHeld ?_
       refine tQ 4 rfl hHeld ?_
       refine tX 5 rfl (fun wz hSw => hSw.2.1.at_ (i := 3) rfl) hHeld ?_
       refine tO 3 rfl (fun K hK => ?_)
       go_simp
       go_at_call 52
       refine (hly.out _ (HA'.out.hs.below hHeld.2.2)).mono ?_
       rintro e8 W8 ⟨rfl, hz⟩
       replace hA7 := hA7.below hz
       have hHeld8 := And.intro (hHeld.1.below hz hHeld.1.lt) (And.intro (hHeld.2.1.below hz hHeld.2.1.lt) (hHeld.2.2.trans (hz.mono hHeld.2.2.size)))
       refine hK.out _ _ hHeld8 (fun hHeld2 => ?_)
       clear hHeld hHeld8 hz
       have hHeld := hHeld2
       clear hHeld2
       clear hK K
       try simp only [Act.put, sA, s0, s1]
       refine tU 6 rfl #[(0, .agg r2.toArray), (1, .agg rl.toArray), (2, .slice da dn dc)] hfb.out hHeld ?_
       obtain ⟨W9, hQ⟩ := put_row (ty := 53) hA7.bF (x := rf) (by rw [hfl.out]; rfl) (by rw [hfl.out]; exact sizeF) hfo.out
       have hA9 := hA7.setF hQ
       have hH9 := hHeld.1.grown hQ.grown (fun e => by injection e with e; omega)
       have hfin := Lib.hid (hfin0.out W9 hA9.bel)
       have hblk := Lib.hid hA9.bF
       have hQ' := Lib.hid hQ
       clear hQ
       refine tO 7 rfl (fun K hK => ?_)
       refine wp_store_mid 53 _ _ rfl (tb + 1 + 1) 0 rf.toArray (by rfl) (by rfl) hQ'.out.there hQ'.out.info (by simpa using hQ'.out.one) ?_
       generalize hWq : World.setCells _ _ _ _ = Wa
       obtain rfl : W9 = Wa := by rw [← hWq]; exact hQ'.out.eq
       clear hWq
       refine hK.out _ _ ⟨hH9, hA9.b7, hA9.bel⟩ (fun hHeld2 => ?_)
       clear hHeld hH9 hA9 hA7
       have hHeld := hHeld2
       clear hHeld2
       clear hK K
       try simp only [Act.put]
       refine tQ 8 rfl hHeld ?_
       refine wpAnyH_done (by kernel_rfl) ?_ _
       clear hHeld
       go_wp2_with fail
       exact ret_cell_tmp (fn := Tryz.f22) (p := 4) (u := 5) rfl hblk.out Tryz.underlying53 rfl fi.out rfl rfl rfl hfin.out
      | false =>
       have hsp3 : Hid (cmpV va vb = (zeroF, false)) := by show _ = _; rw [hsp2.out, if_neg (by simp)]
       obtain ⟨W9, hQ⟩ := put_row (ty := 53) hBq.out.bF (x := zrF) rfl sizeF zone.out
       have hB9 := Lib.hid (hBq.out.setF hQ)
       have hfin : Hid (X (.returned (.tuple #[.agg zrF.toArray, .bool false])) W9) := by
        rw [hX'.out, hsp3.out]
        exact ⟨none, 0, 0, rfl, okF0, ds_nil W9, by omega, hB9.out.bel⟩
       have hblk := Lib.hid hB9.out.bF
       have hQ' := Lib.hid hQ
       clear hQ hBq hHq hB9 hsp2 hsp3
       have hbz := Lib.hid build_zrF
       generalize zrF = rf at *
       go_wp2_with (first
        | (refine wpList_build_run (by rfl) 53 _ rfl #[] (by simp) (hbz.out _) ?_)
         | (refine wpList_store_mid (by rfl) 53 _ _ (by rfl) (tb + 1 + 1) 0 (rf : List Value).toArray (by rfl) (by rfl) hQ'.out.there hQ'.out.info (by simpa using hQ'.out.one) ?_
            generalize hWq : World.setCells _ _ _ _ = Wa
            obtain rfl : W9 = Wa := by rw [← hWq]; exact hQ'.out.eq
            clear hWq))
       exact ret_cell_tmp (fn := Tryz.f22) (p := 4) (u := 5) rfl hblk.out Tryz.underlying53 rfl zi.out rfl rfl rfl hfin.out
    case neg =>
     have g4 : decide (dn < bn) = false := decide_eq_false hlt
     have g5 : decide ((dn : Int) < (bn : Int)) = false := decide_eq_false (by omega)
     have hsp : Hid (cmpV va vb = _) := hspec.out.trans ((if_neg (by rw [ln, lm]; exact hlt)).trans (cmp2_R va vb))
     clear hspec hlt ln lm
     go_upto_region 6 with fail
     clear a0 a1 a2 a3 a4 b0 b1 b2 b3 b4 g1 g2 g3 g4 g5
     have hod := Lib.hid (fun W h1 h2 => r32odd_any hb bm bk vb.hs da dn dc va.ds W h1 h2 HA'.out.bd)
     have hod2 := Lib.hid (fun W h1 h2 => r32odd_any ha hn hc va.hs db bn bc vb.ds W h1 h2 HB'.out.bd)
     have okO := Lib.hid (oddR_ok HB'.out.hs va.ds)
     have okP := Lib.hid (oddR_ok HA'.out.hs vb.ds)
     have hlx := Lib.hid (fun W h => r32last_any ha hn hc va.hs W h)
     have hly := Lib.hid (fun W h => r32last_any hb bm bk vb.hs W h)
     obtain ⟨AC, eAC⟩ : ∃ x, Hid (oddR vb.hs va.ds = x) := ⟨_, rfl⟩
     obtain ⟨AD, eAD⟩ : ∃ x, Hid (oddR va.hs vb.ds = x) := ⟨_, rfl⟩
     rw [eAC.out] at hod hsp okO
     rw [eAD.out] at hod2 hsp okP
     clear eAC eAD
     obtain ⟨oh, ob⟩ := AC
     obtain ⟨ph, pb⟩ := AD
     simp only [] at hsp okO okP
     have x3 := hB3.out.b6.at_ (i := 3) rfl
     have y4 := hB3.out.b7.at_ (i := 4) rfl
     go_wp2_with fail
     refine (hod.out _ (HB'.out.hs.below hB3.out.bel) (HA'.out.ds.below hB3.out.bel)).mono ?_
     rintro e w5 ⟨rfl, hb5⟩
     have hB5 := Lib.hid (hB3.out.below hb5)
     simp only []
     obtain ⟨qh, hqh⟩ : ∃ q, Hid (w5.heap.size = q) := ⟨_, rfl⟩
     obtain ⟨W9, hQ⟩ := put_row (ty := 36) (Blk.new w5 36 zrH) (x := hdC oh) (by rw [hdC_len okO.out]; rfl) (infoHd okO.out).out (hdC_r okO.out).one
     have hBq := Lib.hid (hB5.out.below (below_grown ((Below.refl _ w5).alloc (Nat.le_refl _) _) hQ.grown (by simp) (Nat.le_refl _)))
     have hHq : Hid (Blk W9 qh 36 (hdC oh)) := by rw [← hqh.out]; exact hQ.blk
     have hn1 : tb + 1 + 1 < qh := by rw [← hqh.out]; exact hB5.out.bF.lt
     have hn2 : qa < qh := by rw [← hqh.out]; exact hB5.out.b6.lt
     have hn3 : qb < qh := by rw [← hqh.out]; exact hB5.out.b7.lt
     have hQ' := Lib.hid hQ
     rw [hqh.out] at hQ'
     have hri := infoHd okO.out
     have hrl0 := Lib.hid (hdC_len okO.out)
     obtain ⟨rh, hrh⟩ : ∃ r, Hid (hdC oh = r) := ⟨_, rfl⟩
     rw [hrh.out] at hHq hQ' hri hrl0 ⊢
     clear hQ hB5 hb5 hB3 x3 y4 hod
     go_upto_region 7 with (first
      | (rw [hqh.out]
         refine wpList_store_mid (by rfl) 36 _ _ (by rfl) qh 0 (rh : List Value).toArray (by rfl) (by rfl) hQ'.out.there hQ'.out.info (by simpa using hQ'.out.one) ?_
         generalize hWq : World.setCells _ _ _ _ = Wa
         obtain rfl : W9 = Wa := by rw [← hWq]; exact hQ'.out.eq
         clear hWq))
     try simp only [Act.put]
     clear hQ' hqh
     cases ob with
     | true =>
      have hsp2 : Hid (cmpV va vb = (⟨oh, lastH va.hs, va.ds⟩, true)) := by show _ = _; rw [hsp.out, if_pos rfl]
      clear hsp hod2 hly
      have hfin0 : Hid (∀ W, Below w.heap.size w W → X (.returned (.tuple #[.agg (forkC ⟨oh, lastH va.hs, va.ds⟩ da dn dc).toArray, .bool true])) W) := fun W hbW => by
       rw [hX'.out, hsp2.out]
       exact ⟨da, dn, dc, rfl, ⟨okO.out, (HS.last HA'.out.hs)⟩, HA'.out.ds.below hbW, HA'.out.bd, hbW⟩
      have okf : OkF ⟨oh, lastH va.hs, va.ds⟩ := ⟨okO.out, (HS.last HA'.out.hs)⟩
      have hfb := Lib.hid (fun W => fork_build okO.out (HS.last HA'.out.hs) va.ds da dn dc W)
      have hfl := Lib.hid (forkC_len okf da dn dc)
      have hfo := Lib.hid (forkC_one okf da dn dc)
      have fi := infoF okf da dn dc
      rw [hrh.out] at hfb
      obtain ⟨rl, hrl⟩ : ∃ r, Hid (hdC (lastH va.hs) = r) := ⟨_, rfl⟩
      unfold HdPost at hlx
      rw [hrl.out] at hfb hlx
      generalize forkC ⟨oh, lastH va.hs, va.ds⟩ da dn dc = rf at *
      clear okf hrl hsp2
      go_wp2_with fail
      have hA7 := hBq.out.below ((Below.refl _ W9).drew)
      have hH7 : Blk W9.drew qh 36 rh := hHq.out
      clear hBq hHq
      refine wp_region_held_drew (S := fun wz => Blk wz qh 36 rh ∧ Blk wz qa 50 [.int .i64 va.st, .int .i64 va.fo, .int .i64 va.pub, .slice da dn dc, .slice ha hn hc] ∧ Below w.heap.size w wz) (by kernel_rfl) (⟨hH7, hA7.b6, hA7.bel⟩) (fun hHeld => ?_)
      generalize W9.drew = Wd at *
      refine tY 0 rfl qh 0 (rh) (fun wz h => h.1.range) Tryz.underlying36 hri.out hHeld ?_
      refine tQ 1 rfl hHeld ?_
      refine tX 2 rfl (fun wz hSw => hSw.2.1.at_ (i := 4) rfl) hHeld ?_
      refine tQ 4 rfl hHeld ?_
      refine tX 5 rfl (fun wz hSw => hSw.2.1.at_ (i := 3) rfl) hHeld ?_
      refine tO 3 rfl (fun K hK => ?_)
      go_simp
      go_at_call 52
      refine (hlx.out _ (HA'.out.hs.below hHeld.2.2)).mono ?_
      rintro e8 W8 ⟨rfl, hz⟩
      replace hA7 := hA7.below hz
      have hHeld8 := And.intro (hHeld.1.below hz hHeld.1.lt) (And.intro (hHeld.2.1.below hz hHeld.2.1.lt) (hHeld.2.2.trans (hz.mono hHeld.2.2.size)))
      refine hK.out _ _ hHeld8 (fun hHeld2 => ?_)
      clear hHeld hHeld8 hz
      have hHeld := hHeld2
      clear hHeld2
      clear hK K
      try simp only [Act.put, sA, s0, s1]
      refine tU 6 rfl #[(0, .agg rh.toArray), (1, .agg rl.toArray), (2, .slice da dn dc)] hfb.out hHeld ?_
      obtain ⟨W9, hQ⟩ := put_row (ty := 53) hA7.bF (x := rf) (by rw [hfl.out]; rfl) (by rw [hfl.out]; exact sizeF) hfo.out
      have hA9 := hA7.setF hQ
      have hH9 := hHeld.1.grown hQ.grown (fun e => by injection e with e; omega)
      have hfin := Lib.hid (hfin0.out W9 hA9.bel)
      have hblk := Lib.hid hA9.bF
      have hQ' := Lib.hid hQ
      clear hQ
      refine tO 7 rfl (fun K hK => ?_)
      refine wp_store_mid 53 _ _ rfl (tb + 1 + 1) 0 rf.toArray (by rfl) (by rfl) hQ'.out.there hQ'.out.info (by simpa using hQ'.out.one) ?_
      generalize hWq : World.setCells _ _ _ _ = Wa
      obtain rfl : W9 = Wa := by rw [← hWq]; exact hQ'.out.eq
      clear hWq
      refine hK.out _ _ ⟨hH9, hA9.b6, hA9.bel⟩ (fun hHeld2 => ?_)
      clear hHeld hH9 hA9 hA7
      have hHeld := hHeld2
      clear hHeld2
      clear hK K
      try simp only [Act.put]
      refine tQ 8 rfl hHeld ?_
      refine wpAnyH_done (by kernel_rfl) ?_ _
      clear hHeld
      go_wp2_with fail
      exact ret_cell_tmp (fn := Tryz.f22) (p := 4) (u := 5) rfl hblk.out Tryz.underlying53 rfl fi.out rfl rfl rfl hfin.out
     | false =>
      have hsp2 : Hid (cmpV va vb = if pb = true then (⟨ph, lastH vb.hs, vb.ds⟩, true) else (zeroF, false)) := by show _ = _; rw [hsp.out, if_neg (by simp)]
      clear hsp hlx
      have x4 := hBq.out.b6.at_ (i := 4) rfl
      have y3 := hBq.out.b7.at_ (i := 3) rfl
      go_wp2_with fail
      refine (hod2.out _ (HA'.out.hs.below hBq.out.bel) (HB'.out.ds.below hBq.out.bel)).mono ?_
      rintro e w6 ⟨rfl, hb6⟩
      have hB6 := Lib.hid (hBq.out.below hb6)
      have hH6 := Lib.hid (hHq.out.below hb6 hHq.out.lt)
      clear hBq hHq hb6 x4 y3 hod2 hri hrh okO oh
      simp only []
      obtain ⟨W8, hQ⟩ := put_row (ty := 36) hH6.out (x := hdC ph) (by rw [hdC_len okP.out, hrl0.out]) (infoHd okP.out).out (hdC_r okP.out).one
      have hBq := Lib.hid (hB6.out.setH hQ hn1 (by omega) (by omega))
      have hHq := Lib.hid hQ.blk
      have hQ' := Lib.hid hQ
      have hri := infoHd okP.out
      obtain ⟨oh, hoh⟩ : ∃ h, ph = h := ⟨_, rfl⟩
      subst hoh
      clear hrl0
      obtain ⟨r2, hrh⟩ : ∃ r, Hid (hdC ph = r) := ⟨_, rfl⟩
      rw [hrh.out] at hHq hQ' hri ⊢
      clear hQ hB6 hH6
      go_upto_region 10 with (first
       | (refine wpList_store_mid (by rfl) 36 _ _ (by rfl) qh 0 (r2 : List Value).toArray (by rfl) (by rfl) hQ'.out.there hQ'.out.info (by simpa using hQ'.out.one) ?_
          generalize hWq : World.setCells _ _ _ _ = Wa
          obtain rfl : W8 = Wa := by rw [← hWq]; exact hQ'.out.eq
          clear hWq))
      try simp only [Act.put]
      clear hQ'
      cases pb with
      | true =>
       have hsp3 : Hid (cmpV va vb = (⟨ph, lastH vb.hs, vb.ds⟩, true)) := by show _ = _; rw [hsp2.out, if_pos rfl]
       clear hsp2
       have hfin0 : Hid (∀ W, Below w.heap.size w W → X (.returned (.tuple #[.agg (forkC ⟨ph, lastH vb.hs, vb.ds⟩ db bn bc).toArray, .bool true])) W) := fun W hbW => by
        rw [hX'.out, hsp3.out]
        exact ⟨db, bn, bc, rfl, ⟨okP.out, (HS.last HB'.out.hs)⟩, HB'.out.ds.below hbW, HB'.out.bd, hbW⟩
       have okf : OkF ⟨ph, lastH vb.hs, vb.ds⟩ := ⟨okP.out, (HS.last HB'.out.hs)⟩
       have hfb := Lib.hid (fun W => fork_build okP.out (HS.last HB'.out.hs) vb.ds db bn bc W)
       have hfl := Lib.hid (forkC_len okf db bn bc)
       have hfo := Lib.hid (forkC_one okf db bn bc)
       have fi := infoF okf db bn bc
       rw [hrh.out] at hfb
       obtain ⟨rl, hrl⟩ : ∃ r, Hid (hdC (lastH vb.hs) = r) := ⟨_, rfl⟩
       unfold HdPost at hly
       rw [hrl.out] at hfb hly
       generalize forkC ⟨ph, lastH vb.hs, vb.ds⟩ db bn bc = rf at *
       clear okf hrl hsp3
       go_wp2_with fail
       have hA7 := hBq.out.below ((Below.refl _ W8).drew)
       have hH7 : Blk W8.drew qh 36 r2 := hHq.out
       clear hBq hHq
       refine wp_region_held_drew (S := fun wz => Blk wz qh 36 r2 ∧ Blk wz qb 50 [.int .i64 vb.st, .int .i64 vb.fo, .int .i64 vb.pub, .slice db bn bc, .slice hb bm bk] ∧ Below w.heap.size w wz) (by kernel_rfl) (⟨hH7, hA7.b7, hA7.bel⟩) (fun hHeld => ?_)
       generalize W8.drew = Wd at *
       refine tY 0 rfl qh 0 (r2) (fun wz h => h.1.range) Tryz.underlying36 hri.out hHeld ?_
       refine tQ 1 rfl hHeld ?_
       refine tX 2 rfl (fun wz hSw => hSw.2.1.at_ (i := 4) rfl) hHeld ?_
       refine tQ 4 rfl hHeld ?_
       refine tX 5 rfl (fun wz hSw => hSw.2.1.at_ (i := 3) rfl) hHeld ?_
       refine tO 3 rfl (fun K hK => ?_)
       go_simp
       go_at_call 52
       refine (hly.out _ (HB'.out.hs.below hHeld.2.2)).mono ?_
       rintro e8 W8 ⟨rfl, hz⟩
       replace hA7 := hA7.below hz
       have hHeld8 := And.intro (hHeld.1.below hz hHeld.1.lt) (And.intro (hHeld.2.1.below hz hHeld.2.1.lt) (hHeld.2.2.trans (hz.mono hHeld.2.2.size)))
       refine hK.out _ _ hHeld8 (fun hHeld2 => ?_)
       clear hHeld hHeld8 hz
       have hHeld := hHeld2
       clear hHeld2
       clear hK K
       try simp only [Act.put, sA, s0, s1]
       refine tU 6 rfl #[(0, .agg r2.toArray), (1, .agg rl.toArray), (2, .slice db bn bc)] hfb.out hHeld ?_
       obtain ⟨W9, hQ⟩ := put_row (ty := 53) hA7.bF (x := rf) (by rw [hfl.out]; rfl) (by rw [hfl.out]; exact sizeF) hfo.out
       have hA9 := hA7.setF hQ
       have hH9 := hHeld.1.grown hQ.grown (fun e => by injection e with e; omega)
       have hfin := Lib.hid (hfin0.out W9 hA9.bel)
       have hblk := Lib.hid hA9.bF
       have hQ' := Lib.hid hQ
       clear hQ
       refine tO 7 rfl (fun K hK => ?_)
       refine wp_store_mid 53 _ _ rfl (tb + 1 + 1) 0 rf.toArray (by rfl) (by rfl) hQ'.out.there hQ'.out.info (by simpa using hQ'.out.one) ?_
       generalize hWq : World.setCells _ _ _ _ = Wa
       obtain rfl : W9 = Wa := by rw [← hWq]; exact hQ'.out.eq
       clear hWq
       refine hK.out _ _ ⟨hH9, hA9.b7, hA9.bel⟩ (fun hHeld2 => ?_)
       clear hHeld hH9 hA9 hA7
       have hHeld := hHeld2
       clear hHeld2
       clear hK K
       try simp only [Act.put]
       refine tQ 8 rfl hHeld ?_
       refine wpAnyH_done (by kernel_rfl) ?_ _
       clear hHeld
       go_wp2_with fail
       exact ret_cell_tmp (fn := Tryz.f22) (p := 4) (u := 5) rfl hblk.out Tryz.underlying53 rfl fi.out rfl rfl rfl hfin.out
      | false =>
       have hsp3 : Hid (cmpV va vb = (zeroF, false)) := by show _ = _; rw [hsp2.out, if_neg (by simp)]
       obtain ⟨W9, hQ⟩ := put_row (ty := 53) hBq.out.bF (x := zrF) rfl sizeF zone.out
       have hB9 := Lib.hid (hBq.out.setF hQ)
       have hfin : Hid (X (.returned (.tuple #[.agg zrF.toArray, .bool false])) W9) := by
        rw [hX'.out, hsp3.out]
        exact ⟨none, 0, 0, rfl, okF0, ds_nil W9, by omega, hB9.out.bel⟩
       have hblk := Lib.hid hB9.out.bF
       have hQ' := Lib.hid hQ
       clear hQ hBq hHq hB9 hsp2 hsp3
       have hbz := Lib.hid build_zrF
       generalize zrF = rf at *
       go_wp2_with (first
        | (refine wpList_build_run (by rfl) 53 _ rfl #[] (by simp) (hbz.out _) ?_)
         | (refine wpList_store_mid (by rfl) 53 _ _ (by rfl) (tb + 1 + 1) 0 (rf : List Value).toArray (by rfl) (by rfl) hQ'.out.there hQ'.out.info (by simpa using hQ'.out.one) ?_
            generalize hWq : World.setCells _ _ _ _ = Wa
            obtain rfl : W9 = Wa := by rw [← hWq]; exact hQ'.out.eq
            clear hWq))
       exact ret_cell_tmp (fn := Tryz.f22) (p := 4) (u := 5) rfl hblk.out Tryz.underlying53 rfl zi.out rfl rfl rfl hfin.out
end Go.Proofs.YtnonfdcbnkdmcaaGreatDoor
