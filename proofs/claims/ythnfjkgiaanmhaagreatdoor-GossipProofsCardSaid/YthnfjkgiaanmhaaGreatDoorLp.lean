/- the law GossipProofs walked -/
import Derived.Test.YthnfjkgiaanmhaaGreatDoorGd
import Derived.Test.YthnfjkgiaanmhaaGreatDoorRe
import Derived.Test.YthnfjkgiaanmhaaGreatDoorCards
import Derived.Test.YthnfjkgiaanmhaaGreatDoorTie
import Derived.SevenTiedAt
import Derived.Deep.DeepHandedRow
import Derived.Deep.DeepWitnessRowRef
namespace Go.Proofs.YthnfjkgiaanmhaaGreatDoor
open Go.RowKit Go.Mem
open Go.Dr (Lst Rt Dir Wt)

section
variable {H : Type} {enc : TypeId × Value → H} {W : World}
theorem cellsWt : Tryz.prog.cellsOf 32 = 2 := by kernel_rfl
theorem open_watch {fuel : Nat} {cs : List Value} {x : DataW H × List MemPlace} (h : DataW.trod enc Tryz.prog W 0 (fun _ => true) true fuel 32 cs = some x) : ∃ (V : Wt) (a : Option Addr) (n c : Nat), cs = wtC V.pub a n c ∧ WM (fun _ => True) W V a n c := by
 obtain ⟨xs, n, _, rfl, hl, hlen, hf⟩ := DataW.trod_struct Tryz.underlying32 h
 rw [cellsWt] at hl
 match xs, hlen with
 | [y0, y1], _ =>
  have h0 : DataW.trod enc Tryz.prog W 0 (fun _ => true) true n 3 ((cs.drop 0).take (Tryz.prog.cellsOf 3)) = some y0 := hf 0 _ rfl
  rw [cellsInt] at h0
  have h1 : DataW.trod enc Tryz.prog W 0 (fun _ => true) true n 25 ((cs.drop 1).take (Tryz.prog.cellsOf 25)) = some y1 := hf 1 _ rfl
  rw [cellsRl] at h1
  obtain ⟨p, e0, i0⟩ := open_int1 h0
  obtain ⟨ra, rn, rc, r, e1, hQ⟩ := open_rts h1
  have q2 : cs.drop 2 = [] := List.drop_eq_nil_of_le (by omega)
  have q1 : cs.drop 1 = [.slice ra rn rc] := by rw [drop_parts cs 1 1 2 rfl, e1, q2]; rfl
  have q0 : cs.drop 0 = [.int .i64 p, .slice ra rn rc] := by rw [drop_parts cs 0 1 1 rfl, e0, q1]; rfl
  exact ⟨⟨p, r⟩, ra, rn, rc, q0, i0, hQ⟩
end
end Go.Proofs.YthnfjkgiaanmhaaGreatDoor
namespace Go.Proofs.YthnfjkgiaanmhaaGreatDoor
open Go.RowKit Go.Mem
open Go.Dr (Lst Rt Dir Wt)

theorem cellsSp : Tryz.prog.cellsOf 42 = 134 := by kernel_rfl
theorem keyTSp : Tryz.prog.keyTypeAt 4 42 = true := by kernel_rfl
theorem formed_sp {s : Rt × Rt} (ok : OkS s) : (Value.agg (spC s).toArray).formed Tryz.prog 42 = true := by
 simp [Value.formed, spC_length ok, cellsSp]
set_option maxRecDepth 20000 in
theorem keyLits_sp (D : Nat) {s : Rt × Rt} (ok : OkS s) : Tryz.prog.keyLits (D + 4) 42 (spC s) = some (litR s.1 ++ litR s.2) := by
 have q1 := keyLits_rt D ok.a
 have q2 := keyLits_rt D ok.b
 have hlen : (spC s).length = Tryz.prog.cellsOf 42 := by rw [spC_length ok, cellsSp]
 have p1 : ((spC s).drop 0).take 67 = rC s.1 := by unfold spC; rw [List.drop_zero, List.take_append_of_le_length (by rw [rC_length ok.a]; omega), List.take_of_length_le (by rw [rC_length ok.a]; omega)]
 have p2 : ((spC s).drop 67).take 67 = rC s.2 := by unfold spC; rw [List.drop_left' (rC_length ok.a), List.take_of_length_le (by rw [rC_length ok.b]; omega)]
 obtain ⟨cs, hcs⟩ : ∃ cs, cs = spC s := ⟨_, rfl⟩
 rw [← hcs] at p1 p2 hlen ⊢
 unfold Program.keyLits
 rw [Tryz.underlying42]
 match cs, hlen with
 | [], hl => rw [cellsSp] at hl; cases hl
 | c :: r, hl =>
  simp only [hl]
  rw [if_pos ⟨trivial, by kernel_rfl⟩]
  simp only [List.mapM_cons, List.mapM_nil, cellsRt, p1, p2, q1, q2]
  simp
theorem eq_split {s : Rt × Rt} (hs : OkS s) (w : World) : (Op.equalIn 10000 42 (.agg (spC s).toArray) (.agg (spC s).toArray)).run Tryz.prog w = .ok true w := by
 obtain ⟨r, hr, hiff⟩ := run_equalIn_deep (P := Tryz.prog) 9996 4 42 keyTSp w 4 4 (.agg (spC s).toArray) (.agg (spC s).toArray) _ _ (formed_sp hs) (formed_sp hs)
  (by simpa [Value.cells] using keyLits_sp 0 hs) (by simpa [Value.cells] using keyLits_sp 0 hs)
 rw [hiff.2 rfl] at hr
 exact hr

set_option maxRecDepth 100000 in
set_option maxHeartbeats 40000000 in
theorem gproofs_walk (V : Wt) (a : Option Addr) (n c : Nat) (U : Wt) (a2 : Option Addr) (n2 c2 : Nat) (r : Rt) (hr : OkQ r) (w : World) (HT : Tabs w) (H : WM (fun _ => True) w V a n c) (H2 : WM (fun _ => True) w U a2 n2 c2) :
 Calls Tryz.prog 5 #[.agg (wtC V.pub a n c).toArray, .agg (wtC U.pub a2 n2 c2).toArray, .agg (rC r).toArray] w (RetBo true w) := by
 have HT' := Lib.hid HT; have hr' := Lib.hid hr
 have hlv : Hid (V.rs.length = n) := H.len
 have hlu : Hid (U.rs.length = n2) := H2.len
 have hpb := Lib.hid H.pub
 clear HT
 obtain ⟨X, hX⟩ : ∃ X, X = RetBo true w := ⟨_, rfl⟩
 have hfin : Hid (∀ W, Below w.heap.size w W → X (.returned (.bool true)) W) := fun W hb => by rw [hX]; exact ⟨rfl, hb⟩
 rw [← hX]
 clear hX
 obtain ⟨zS, hzS⟩ : ∃ z, Hid (spC Go.Dr.zeroS = z) := ⟨_, rfl⟩
 have hzo : Hid ((Tryz.prog.info? 42).map (·.size) = some zS.length) := by rw [← hzS.out]; exact sizeSp' okZS
 have hz1 : Hid (∀ u ∈ zS, u.oneCell' = true) := by rw [← hzS.out]; exact spC_one _
 have hzl : Hid (zS.length = (spC Go.Dr.zeroS).length) := by show _ = _; rw [← hzS.out]
 have hzr : Hid (∀ W, (Instr.build 42 #[]).run Tryz.prog W = .ok (.agg zS.toArray) W) := fun W => by rw [← hzS.out]; exact split_zero W
 obtain ⟨rr, hre⟩ : ∃ z, Hid (rC r = z) := ⟨_, rfl⟩
 have hri : Hid ((Tryz.prog.info? 40).map (·.size) = some rr.length) := by show _ = _; rw [← hre.out, rC_length hr]; exact sizeR
 rw [hre.out]
 clear hr
 obtain ⟨v0, hW0⟩ : ∃ W, Hid ((((w.alloc (.cells (wtC V.pub a n c).toArray 32)).alloc (.cells (wtC U.pub a2 n2 c2).toArray 32)).alloc (.cells (rr).toArray 40)) = W) := ⟨_, rfl⟩
 obtain ⟨b0, hb0⟩ : ∃ b, Hid (w.heap.size = b) := ⟨_, rfl⟩
 obtain ⟨b1, hb1⟩ : ∃ b, Hid (b0 + 1 = b) := ⟨_, rfl⟩
 obtain ⟨b2, hb2⟩ : ∃ b, Hid (b1 + 1 = b) := ⟨_, rfl⟩
 have hBv : Hid (Blk v0 b0 32 (wtC V.pub a n c)) := by
  rw [← hW0.out, ← hb0.out]
  have hh := ((Blk.new w 32 (wtC V.pub a n c)).alloc (.cells (wtC U.pub a2 n2 c2).toArray 32)).alloc (.cells (rr).toArray 40)
  exact hh
 have hBu : Hid (Blk v0 b1 32 (wtC U.pub a2 n2 c2)) := by
  rw [← hW0.out, ← hb1.out, ← hb0.out]
  have hh := (Blk.new (w.alloc (.cells (wtC V.pub a n c).toArray 32)) 32 (wtC U.pub a2 n2 c2)).alloc (.cells (rr).toArray 40)
  rw [World.size_alloc] at hh
  exact hh
 have hBr : Hid (Blk v0 b2 40 (rr)) := by
  rw [← hW0.out, ← hb2.out, ← hb1.out, ← hb0.out]
  have hh := Blk.new ((w.alloc (.cells (wtC V.pub a n c).toArray 32)).alloc (.cells (wtC U.pub a2 n2 c2).toArray 32)) 40 (rr)
  rw [World.size_alloc, World.size_alloc] at hh
  exact hh
 have hbw : Hid (Below w.heap.size w v0) := by rw [← hW0.out]; exact (((Below.refl _ w).alloc (Nat.le_refl _) _).alloc (by simp) _).alloc (by simp; omega) _
 have hW0q := hW0.out
 have hV := Lib.hid (H.below hbw.out)
 have hU := Lib.hid (H2.below hbw.out)
 clear H H2
 go_enter Tryz.func5, Tryz.ntmps5
 go_upto_region 1 with fail
 rw [hb0.out, hb1.out, hb2.out]
 generalize hWz : World.alloc _ _ = Wz
 obtain rfl : v0 = Wz := by rw [← hWz]; exact hW0q.symm
 clear hWz hW0q hW0
 go_wp2_with fail
 refine (sane36_any _ (HT'.out.below hbw.out)).mono ?_
 rintro e w1 ⟨rfl, hst⟩
 replace hBv := Lib.hid (hBv.out.below hst hBv.out.lt)
 replace hBu := Lib.hid (hBu.out.below hst hBu.out.lt)
 replace hBr := Lib.hid (hBr.out.below hst hBr.out.lt)
 replace hV := Lib.hid (hV.out.below hst)
 replace hU := Lib.hid (hU.out.below hst)
 replace hbw := Lib.hid (hbw.out.trans (hst.mono hbw.out.size))
 clear hst
 have y0 := hBv.out.at_ (i := 0) (x := .int .i64 V.pub) rfl
 have y1 := hBv.out.at_ (i := 1) (x := .slice a n c) rfl
 go_wp2_with fail
 clear y0 y1
 refine (few36_any V a n c hlv.out _).mono ?_
 rintro e w2 ⟨rfl, hst⟩
 replace hBv := Lib.hid (hBv.out.below hst hBv.out.lt)
 replace hBu := Lib.hid (hBu.out.below hst hBu.out.lt)
 replace hBr := Lib.hid (hBr.out.below hst hBr.out.lt)
 replace hV := Lib.hid (hV.out.below hst)
 replace hU := Lib.hid (hU.out.below hst)
 replace hbw := Lib.hid (hbw.out.trans (hst.mono hbw.out.size))
 clear hst
 cases few36 V with
 | false =>
  have hend := Lib.hid (hfin.out _ hbw.out)
  clear hfin
  go_wp2_with fail
  exact hend.out
 | true =>
  have z0 := hBu.out.at_ (i := 0) (x := .int .i64 U.pub) rfl
  have z1 := hBu.out.at_ (i := 1) (x := .slice a2 n2 c2) rfl
  go_wp2_with fail
  clear z0 z1
  refine (few36_any U a2 n2 c2 hlu.out _).mono ?_
  rintro e w3 ⟨rfl, hst⟩
  replace hBv := Lib.hid (hBv.out.below hst hBv.out.lt)
  replace hBu := Lib.hid (hBu.out.below hst hBu.out.lt)
  replace hBr := Lib.hid (hBr.out.below hst hBr.out.lt)
  replace hV := Lib.hid (hV.out.below hst)
  replace hU := Lib.hid (hU.out.below hst)
  replace hbw := Lib.hid (hbw.out.trans (hst.mono hbw.out.size))
  clear hst
  cases few36 U with
  | false =>
   have hend := Lib.hid (hfin.out _ hbw.out)
   clear hfin
   go_wp2_with fail
   exact hend.out
  | true =>
   have y0 := hBv.out.at_ (i := 0) (x := .int .i64 V.pub) rfl
   have y1 := hBv.out.at_ (i := 1) (x := .slice a n c) rfl
   have hrg := Lib.hid hBr.out.range
   go_wp2_with (first
    | (refine wpList_load_mid (by rfl) 40 (.tmp 5) (by rfl) b2 0 (by rfl) rr _ hrg.out Tryz.underlying40 (by rfl) hri.out ?_))
   clear y0 y1 hrg
   have hcmp := Lib.hid (fun W hT h1 h2 => gcompare_any (fun _ => True) (fun _ => True) V a n c U a2 n2 c2 W hT h1 h2)
   unfold CmpPost at hcmp
   have hokc : Hid (OkS (Go.Dr.cmpW 4 V U).1) := cmpW_ok hV.out.qs.oks hU.out.qs.oks
   have hcpr : Hid ((Go.Dr.cmpW 4 V U).2 = true → Go.Dr.proveS 4 V.pub (Go.Dr.cmpW 4 V U).1 = 0) := fun h => Go.Dr.cmp_proofs h
   obtain ⟨tC, htC⟩ : ∃ t, Hid ((Go.Dr.cmpW 4 V U).1 = t) := ⟨_, rfl⟩
   obtain ⟨bC, hbC⟩ : ∃ t, Hid ((Go.Dr.cmpW 4 V U).2 = t) := ⟨_, rfl⟩
   rw [htC.out, hbC.out] at hcmp hcpr
   rw [htC.out] at hokc
   have htl : Hid ((spC tC).length = (spC Go.Dr.zeroS).length) := by show _ = _; rw [spC_length hokc.out, spC_length okZS]
   have hti : Hid ((Tryz.prog.info? 42).map (·.size) = some (spC tC).length) := sizeSp' hokc.out
   have ht1 := Lib.hid (spC_one tC)
   have hpc := Lib.hid (fun W hT => gprove_any V.pub hpb.out tC hokc.out W hT)
   obtain ⟨sC, hsC⟩ : ∃ z, Hid (spC tC = z) := ⟨_, rfl⟩
   rw [hsC.out] at hcmp htl hti ht1 hpc
   have heqz := fun W => eq_split okZS W
   rw [hzS.out] at heqz
   clear htC hbC
   rcases Go.Dr.acc_cases 4 V r with ⟨hy, _⟩ | ⟨_, _, hcf, hy⟩ | ⟨_, _, _, hy2⟩
   · skip
     have hqq : True := trivial
     have hac := Lib.hid (fun (W : World) hT hM => accept_at (K := fun _ => True) hy (m := 0) rfl hr'.out hre.out (a := a) (n := n) (c := c) (w := W) hT hM)
     rw [hzS.out] at hac
     refine (hac.out _ (HT'.out.below hbw.out) hV.out).mono ?_
     rintro e w5 ⟨a5, c5, rfl, hW50, hst⟩
     replace hBv := Lib.hid (hBv.out.below hst hBv.out.lt)
     replace hBu := Lib.hid (hBu.out.below hst hBu.out.lt)
     replace hBr := Lib.hid (hBr.out.below hst hBr.out.lt)
     replace hV := Lib.hid (hV.out.below hst)
     replace hU := Lib.hid (hU.out.below hst)
     replace hbw := Lib.hid (hbw.out.trans (hst.mono hbw.out.size))
     have hW5 : Hid (WM (fun _ => True) w5 Go.Dr.zeroW a5 0 c5) := hW50.imp (fun _ _ _ => trivial)
     clear hst hW50 hac
     have al : Below w5.heap.size w5 ((w5.alloc (.cells (wtC 0 none 0 0).toArray 32)).alloc (.cells (spC Go.Dr.zeroS).toArray 42)) := ((Below.refl _ w5).alloc (Nat.le_refl _) _).alloc (by simp) _
     have ba := (Blk.new w5 32 (wtC 0 none 0 0)).alloc (.cells (spC Go.Dr.zeroS).toArray 42)
     have bb := Blk.new (w5.alloc (.cells (wtC 0 none 0 0).toArray 32)) 42 (spC Go.Dr.zeroS)
     rw [World.size_alloc] at bb
     obtain ⟨v5a, hPa⟩ : ∃ Vq, Hid (PutR 32 ((w5.alloc (.cells (wtC 0 none 0 0).toArray 32)).alloc (.cells (spC Go.Dr.zeroS).toArray 42)) Vq w5.heap.size 32 (wtC Go.Dr.zeroW.pub a5 0 c5)) := put_row ba rfl sizeWt (wt_one _ _ _ _)
     obtain ⟨v5, hPb⟩ : ∃ Vq, Hid (PutR 42 v5a Vq (w5.heap.size + 1) 42 zS) := put_row (bb.grown hPa.out.grown (by intro e; injection e; omega)) hzl.out hzo.out hz1.out
     have hst := below_grown (below_grown al hPa.out.grown al.size (Nat.le_refl _)) hPb.out.grown (Nat.le_trans al.size hPa.out.grown.size) (Nat.le_succ _)
     have hBx := Lib.hid (hPa.out.blk.grown hPb.out.grown (by intro e; injection e; omega))
     have hBy := Lib.hid hPb.out.blk
     replace hBv := Lib.hid (hBv.out.below hst hBv.out.lt)
     replace hBu := Lib.hid (hBu.out.below hst hBu.out.lt)
     replace hBr := Lib.hid (hBr.out.below hst hBr.out.lt)
     replace hV := Lib.hid (hV.out.below hst)
     replace hU := Lib.hid (hU.out.below hst)
     replace hW5 := Lib.hid (hW5.out.below hst)
     replace hbw := Lib.hid (hbw.out.trans (hst.mono hbw.out.size))
     clear hst al ba bb
     obtain ⟨syb, hsyb⟩ : ∃ b, Hid (w5.heap.size + 1 = b) := ⟨_, rfl⟩
     rw [hsyb.out] at hBy
     have hry := Lib.hid hBy.out.range
     go_upto_region 6 with (first
      | (refine wpList_store_mid (by rfl) 32 (.tmp 7) (.tmp 26) (by rfl) w5.heap.size 0 (wtC Go.Dr.zeroW.pub a5 0 c5).toArray (by rfl) (by rfl) hPa.out.there hPa.out.info (by simpa using hPa.out.one) ?_
         generalize hWq : World.setCells _ _ _ _ = Wa
         obtain rfl : v5a = Wa := by rw [← hWq]; exact hPa.out.eq
         clear hWq)
          | (refine wpList_store_mid (by rfl) 42 (.tmp 8) (.tmp 27) (by rfl) (w5.heap.size + 1) 0 (zS).toArray (by rfl) (by rfl) hPb.out.there hPb.out.info (by simpa using hPb.out.one) ?_
             generalize hWq : World.setCells _ _ _ _ = Wa
             obtain rfl : v5 = Wa := by rw [← hWq]; exact hPb.out.eq
             clear hWq
             rw [hsyb.out]))
     clear hPa hPb
     go_upto_region 8 with fail
     go_upto_region 10 with (first
      | (refine wpList_load_gd (by rfl) 42 (.tmp 8) (by rfl) syb 0 (by rfl) zS _ hry.out Tryz.underlying42 (by rfl) hzo.out ?_)
       | (refine wpList_build_run (by rfl) 42 _ rfl #[] (by simp) (hzr.out _) ?_))
     clear hry
     have y0 := hBv.out.at_ (i := 0) (x := .int .i64 V.pub) rfl
     have y1 := hBv.out.at_ (i := 1) (x := .slice a n c) rfl
     have z0 := hBu.out.at_ (i := 0) (x := .int .i64 U.pub) rfl
     have z1 := hBu.out.at_ (i := 1) (x := .slice a2 n2 c2) rfl
     go_wp2_with fail
     clear y0 y1 z0 z1
     refine (hcmp.out _ (HT'.out.below hbw.out) hV.out hU.out).mono ?_
     rintro e w8 ⟨rfl, hst⟩
     replace hBv := Lib.hid (hBv.out.below hst hBv.out.lt)
     replace hBu := Lib.hid (hBu.out.below hst hBu.out.lt)
     replace hBr := Lib.hid (hBr.out.below hst hBr.out.lt)
     replace hV := Lib.hid (hV.out.below hst)
     replace hU := Lib.hid (hU.out.below hst)
     replace hW5 := Lib.hid (hW5.out.below hst)
     replace hBx := Lib.hid (hBx.out.below hst hBx.out.lt)
     replace hBy := Lib.hid (hBy.out.below hst hBy.out.lt)
     replace hbw := Lib.hid (hbw.out.trans (hst.mono hbw.out.size))
     clear hst
     obtain ⟨v8, hP⟩ : ∃ V, Hid (PutR 42 (w8.alloc (.cells (spC Go.Dr.zeroS : List Value).toArray 42)) V w8.heap.size 42 (sC)) := put_row (Blk.new w8 42 (spC Go.Dr.zeroS)) htl.out (hti.out) (ht1.out)
     have hst := below_grown ((Below.refl _ w8).alloc (Nat.le_refl _) _) hP.out.grown (by simp) (Nat.le_refl _)
     replace hBv := Lib.hid (hBv.out.below hst hBv.out.lt)
     replace hBu := Lib.hid (hBu.out.below hst hBu.out.lt)
     replace hBr := Lib.hid (hBr.out.below hst hBr.out.lt)
     replace hV := Lib.hid (hV.out.below hst)
     replace hU := Lib.hid (hU.out.below hst)
     replace hW5 := Lib.hid (hW5.out.below hst)
     replace hBx := Lib.hid (hBx.out.below hst hBx.out.lt)
     replace hBy := Lib.hid (hBy.out.below hst hBy.out.lt)
     replace hbw := Lib.hid (hbw.out.trans (hst.mono hbw.out.size))
     clear hst
     have hBs := Lib.hid hP.out.blk
     obtain ⟨sb8, hsb8⟩ : ∃ b, Hid (w8.heap.size = b) := ⟨_, rfl⟩
     rw [hsb8.out] at hBs
     cases bC with
     | false =>
      have hend := Lib.hid (hfin.out _ hbw.out)
      clear hfin
      go_wp2_with (first
       | (refine wpList_store_mid (by rfl) 42 (.tmp 10) (.tmp 55) (by rfl) w8.heap.size 0 (sC).toArray (by rfl) (by rfl) hP.out.there hP.out.info (by simpa using hP.out.one) ?_
          generalize hWq : World.setCells _ _ _ _ = Wa
          obtain rfl : v8 = Wa := by rw [← hWq]; exact hP.out.eq
          clear hWq
          rw [hsb8.out]))
      exact hend.out
     | true =>
      rw [hcpr.out rfl] at hpc
      have y0 := hBv.out.at_ (i := 0) (x := .int .i64 V.pub) rfl
      have hrs := Lib.hid hBs.out.range
      go_wp2_with (first
       | (refine wpList_store_mid (by rfl) 42 (.tmp 10) (.tmp 55) (by rfl) w8.heap.size 0 (sC).toArray (by rfl) (by rfl) hP.out.there hP.out.info (by simpa using hP.out.one) ?_
          generalize hWq : World.setCells _ _ _ _ = Wa
          obtain rfl : v8 = Wa := by rw [← hWq]; exact hP.out.eq
          clear hWq
          rw [hsb8.out])
           | (refine wpList_load_gd (by rfl) 42 (.tmp 10) (by rfl) sb8 0 (by rfl) sC _ hrs.out Tryz.underlying42 (by rfl) hti.out ?_))
      refine (hpc.out _ (HT'.out.below hbw.out)).mono ?_
      rintro e w9 ⟨rfl, hst⟩
      replace hBv := Lib.hid (hBv.out.below hst hBv.out.lt)
      replace hBu := Lib.hid (hBu.out.below hst hBu.out.lt)
      replace hBr := Lib.hid (hBr.out.below hst hBr.out.lt)
      replace hV := Lib.hid (hV.out.below hst)
      replace hU := Lib.hid (hU.out.below hst)
      replace hW5 := Lib.hid (hW5.out.below hst)
      replace hBx := Lib.hid (hBx.out.below hst hBx.out.lt)
      replace hBy := Lib.hid (hBy.out.below hst hBy.out.lt)
      replace hBs := Lib.hid (hBs.out.below hst hBs.out.lt)
      replace hbw := Lib.hid (hbw.out.trans (hst.mono hbw.out.size))
      clear hst y0 hP hrs
      have hend := Lib.hid (hfin.out _ hbw.out)
      clear hfin
      go_wp2_with fail
      exact hend.out
   · skip
     have hpf := Go.Dr.confl_prove (b := 4) (pub := V.pub) (l := V.rs) (r := r)
     have hap := (Go.Dr.acc_proofs (b := 4) (w := V) (r := r)).1 (by rw [hy])
     rw [hy] at hap
     have hpp : Hid (Go.Dr.proveS 4 V.pub (Go.Dr.confl V.rs r).1 = 0) := hap.1
     have hks : Hid (OkS (Go.Dr.confl V.rs r).1) := confl_ok' hV.out.qs.oks hr'.out
     obtain ⟨tF, htF⟩ : ∃ t, Hid ((Go.Dr.confl V.rs r).1 = t) := ⟨_, rfl⟩
     rw [htF.out] at hy hpp hks
     have hfl : Hid ((spC tF).length = (spC Go.Dr.zeroS).length) := by show _ = _; rw [spC_length hks.out, spC_length okZS]
     have hfi : Hid ((Tryz.prog.info? 42).map (·.size) = some (spC tF).length) := sizeSp' hks.out
     have hf1 := Lib.hid (spC_one tF)
     have hpF := Lib.hid (fun W hT => gprove_any V.pub hpb.out tF hks.out W hT)
     rw [hpp.out] at hpF
     clear hpf hap
     have hac := Lib.hid (fun (W : World) hT hM => accept_at (K := fun _ => True) hy (m := n) hlv.out hr'.out hre.out (a := a) (n := n) (c := c) (w := W) hT hM)
     obtain ⟨sF, hsF⟩ : ∃ z, Hid (spC tF = z) := ⟨_, rfl⟩
     rw [hsF.out] at hac hfl hfi hf1 hpF
     refine (hac.out _ (HT'.out.below hbw.out) hV.out).mono ?_
     rintro e w5 ⟨a5, c5, rfl, hW50, hst⟩
     replace hBv := Lib.hid (hBv.out.below hst hBv.out.lt)
     replace hBu := Lib.hid (hBu.out.below hst hBu.out.lt)
     replace hBr := Lib.hid (hBr.out.below hst hBr.out.lt)
     replace hV := Lib.hid (hV.out.below hst)
     replace hU := Lib.hid (hU.out.below hst)
     replace hbw := Lib.hid (hbw.out.trans (hst.mono hbw.out.size))
     have hW5 : Hid (WM (fun _ => True) w5 V a5 n c5) := hW50.imp (fun _ _ _ => trivial)
     clear hst hW50 hac
     have al : Below w5.heap.size w5 ((w5.alloc (.cells (wtC 0 none 0 0).toArray 32)).alloc (.cells (spC Go.Dr.zeroS).toArray 42)) := ((Below.refl _ w5).alloc (Nat.le_refl _) _).alloc (by simp) _
     have ba := (Blk.new w5 32 (wtC 0 none 0 0)).alloc (.cells (spC Go.Dr.zeroS).toArray 42)
     have bb := Blk.new (w5.alloc (.cells (wtC 0 none 0 0).toArray 32)) 42 (spC Go.Dr.zeroS)
     rw [World.size_alloc] at bb
     obtain ⟨v5a, hPa⟩ : ∃ Vq, Hid (PutR 32 ((w5.alloc (.cells (wtC 0 none 0 0).toArray 32)).alloc (.cells (spC Go.Dr.zeroS).toArray 42)) Vq w5.heap.size 32 (wtC V.pub a5 n c5)) := put_row ba rfl sizeWt (wt_one _ _ _ _)
     obtain ⟨v5, hPb⟩ : ∃ Vq, Hid (PutR 42 v5a Vq (w5.heap.size + 1) 42 sF) := put_row (bb.grown hPa.out.grown (by intro e; injection e; omega)) hfl.out hfi.out hf1.out
     have hst := below_grown (below_grown al hPa.out.grown al.size (Nat.le_refl _)) hPb.out.grown (Nat.le_trans al.size hPa.out.grown.size) (Nat.le_succ _)
     have hBx := Lib.hid (hPa.out.blk.grown hPb.out.grown (by intro e; injection e; omega))
     have hBy := Lib.hid hPb.out.blk
     replace hBv := Lib.hid (hBv.out.below hst hBv.out.lt)
     replace hBu := Lib.hid (hBu.out.below hst hBu.out.lt)
     replace hBr := Lib.hid (hBr.out.below hst hBr.out.lt)
     replace hV := Lib.hid (hV.out.below hst)
     replace hU := Lib.hid (hU.out.below hst)
     replace hW5 := Lib.hid (hW5.out.below hst)
     replace hbw := Lib.hid (hbw.out.trans (hst.mono hbw.out.size))
     clear hst al ba bb
     obtain ⟨syb, hsyb⟩ : ∃ b, Hid (w5.heap.size + 1 = b) := ⟨_, rfl⟩
     rw [hsyb.out] at hBy
     have hry := Lib.hid hBy.out.range
     have y0 := hBv.out.at_ (i := 0) (x := .int .i64 V.pub) rfl
     go_upto_region 6 with (first
      | (refine wpList_store_mid (by rfl) 32 (.tmp 7) (.tmp 26) (by rfl) w5.heap.size 0 (wtC V.pub a5 n c5).toArray (by rfl) (by rfl) hPa.out.there hPa.out.info (by simpa using hPa.out.one) ?_
         generalize hWq : World.setCells _ _ _ _ = Wa
         obtain rfl : v5a = Wa := by rw [← hWq]; exact hPa.out.eq
         clear hWq)
          | (refine wpList_store_mid (by rfl) 42 (.tmp 8) (.tmp 27) (by rfl) (w5.heap.size + 1) 0 (sF).toArray (by rfl) (by rfl) hPb.out.there hPb.out.info (by simpa using hPb.out.one) ?_
             generalize hWq : World.setCells _ _ _ _ = Wa
             obtain rfl : v5 = Wa := by rw [← hWq]; exact hPb.out.eq
             clear hWq
             rw [hsyb.out]))
     clear hPa hPb
     go_wp2_with (first
      | (refine wpList_load_gd (by rfl) 42 (.tmp 8) (by rfl) syb 0 (by rfl) sF _ hry.out Tryz.underlying42 (by rfl) hfi.out ?_))
     refine (hpF.out _ (HT'.out.below hbw.out)).mono ?_
     rintro e w6 ⟨rfl, hst⟩
     replace hBv := Lib.hid (hBv.out.below hst hBv.out.lt)
     replace hBu := Lib.hid (hBu.out.below hst hBu.out.lt)
     replace hBr := Lib.hid (hBr.out.below hst hBr.out.lt)
     replace hV := Lib.hid (hV.out.below hst)
     replace hU := Lib.hid (hU.out.below hst)
     replace hW5 := Lib.hid (hW5.out.below hst)
     replace hBx := Lib.hid (hBx.out.below hst hBx.out.lt)
     replace hBy := Lib.hid (hBy.out.below hst hBy.out.lt)
     replace hbw := Lib.hid (hbw.out.trans (hst.mono hbw.out.size))
     clear hst hry y0
     obtain ⟨sxb, hsxb⟩ : ∃ b, Hid (w5.heap.size = b) := ⟨_, rfl⟩
     rw [hsxb.out] at hBx ⊢
     have y0 := hBv.out.at_ (i := 0) (x := .int .i64 V.pub) rfl
     have y1 := hBv.out.at_ (i := 1) (x := .slice a n c) rfl
     have x0 := hBx.out.at_ (i := 0) (x := .int .i64 V.pub) rfl
     have x1 := hBx.out.at_ (i := 1) (x := .slice a5 n c5) rfl
     go_wp2_with fail
     clear y0 y1 x0 x1
     refine (same36_any (fun _ => True) (fun _ => True) V a5 n c5 a c _ hW5.out hV.out).mono ?_
     rintro e w7 ⟨rfl, hst⟩
     replace hBv := Lib.hid (hBv.out.below hst hBv.out.lt)
     replace hBu := Lib.hid (hBu.out.below hst hBu.out.lt)
     replace hBr := Lib.hid (hBr.out.below hst hBr.out.lt)
     replace hV := Lib.hid (hV.out.below hst)
     replace hU := Lib.hid (hU.out.below hst)
     replace hW5 := Lib.hid (hW5.out.below hst)
     replace hBx := Lib.hid (hBx.out.below hst hBx.out.lt)
     replace hBy := Lib.hid (hBy.out.below hst hBy.out.lt)
     replace hbw := Lib.hid (hbw.out.trans (hst.mono hbw.out.size))
     clear hst
     go_upto_region 10 with fail
     have y0 := hBv.out.at_ (i := 0) (x := .int .i64 V.pub) rfl
     have y1 := hBv.out.at_ (i := 1) (x := .slice a n c) rfl
     have z0 := hBu.out.at_ (i := 0) (x := .int .i64 U.pub) rfl
     have z1 := hBu.out.at_ (i := 1) (x := .slice a2 n2 c2) rfl
     go_wp2_with fail
     clear y0 y1 z0 z1
     refine (hcmp.out _ (HT'.out.below hbw.out) hV.out hU.out).mono ?_
     rintro e w8 ⟨rfl, hst⟩
     replace hBv := Lib.hid (hBv.out.below hst hBv.out.lt)
     replace hBu := Lib.hid (hBu.out.below hst hBu.out.lt)
     replace hBr := Lib.hid (hBr.out.below hst hBr.out.lt)
     replace hV := Lib.hid (hV.out.below hst)
     replace hU := Lib.hid (hU.out.below hst)
     replace hW5 := Lib.hid (hW5.out.below hst)
     replace hBx := Lib.hid (hBx.out.below hst hBx.out.lt)
     replace hBy := Lib.hid (hBy.out.below hst hBy.out.lt)
     replace hbw := Lib.hid (hbw.out.trans (hst.mono hbw.out.size))
     clear hst
     obtain ⟨v8, hP⟩ : ∃ V, Hid (PutR 42 (w8.alloc (.cells (spC Go.Dr.zeroS : List Value).toArray 42)) V w8.heap.size 42 (sC)) := put_row (Blk.new w8 42 (spC Go.Dr.zeroS)) htl.out (hti.out) (ht1.out)
     have hst := below_grown ((Below.refl _ w8).alloc (Nat.le_refl _) _) hP.out.grown (by simp) (Nat.le_refl _)
     replace hBv := Lib.hid (hBv.out.below hst hBv.out.lt)
     replace hBu := Lib.hid (hBu.out.below hst hBu.out.lt)
     replace hBr := Lib.hid (hBr.out.below hst hBr.out.lt)
     replace hV := Lib.hid (hV.out.below hst)
     replace hU := Lib.hid (hU.out.below hst)
     replace hW5 := Lib.hid (hW5.out.below hst)
     replace hBx := Lib.hid (hBx.out.below hst hBx.out.lt)
     replace hBy := Lib.hid (hBy.out.below hst hBy.out.lt)
     replace hbw := Lib.hid (hbw.out.trans (hst.mono hbw.out.size))
     clear hst
     have hBs := Lib.hid hP.out.blk
     obtain ⟨sb8, hsb8⟩ : ∃ b, Hid (w8.heap.size = b) := ⟨_, rfl⟩
     rw [hsb8.out] at hBs
     cases bC with
     | false =>
      have hend := Lib.hid (hfin.out _ hbw.out)
      clear hfin
      go_wp2_with (first
       | (refine wpList_store_mid (by rfl) 42 (.tmp 10) (.tmp 55) (by rfl) w8.heap.size 0 (sC).toArray (by rfl) (by rfl) hP.out.there hP.out.info (by simpa using hP.out.one) ?_
          generalize hWq : World.setCells _ _ _ _ = Wa
          obtain rfl : v8 = Wa := by rw [← hWq]; exact hP.out.eq
          clear hWq
          rw [hsb8.out]))
      exact hend.out
     | true =>
      rw [hcpr.out rfl] at hpc
      have y0 := hBv.out.at_ (i := 0) (x := .int .i64 V.pub) rfl
      have hrs := Lib.hid hBs.out.range
      go_wp2_with (first
       | (refine wpList_store_mid (by rfl) 42 (.tmp 10) (.tmp 55) (by rfl) w8.heap.size 0 (sC).toArray (by rfl) (by rfl) hP.out.there hP.out.info (by simpa using hP.out.one) ?_
          generalize hWq : World.setCells _ _ _ _ = Wa
          obtain rfl : v8 = Wa := by rw [← hWq]; exact hP.out.eq
          clear hWq
          rw [hsb8.out])
           | (refine wpList_load_gd (by rfl) 42 (.tmp 10) (by rfl) sb8 0 (by rfl) sC _ hrs.out Tryz.underlying42 (by rfl) hti.out ?_))
      refine (hpc.out _ (HT'.out.below hbw.out)).mono ?_
      rintro e w9 ⟨rfl, hst⟩
      replace hBv := Lib.hid (hBv.out.below hst hBv.out.lt)
      replace hBu := Lib.hid (hBu.out.below hst hBu.out.lt)
      replace hBr := Lib.hid (hBr.out.below hst hBr.out.lt)
      replace hV := Lib.hid (hV.out.below hst)
      replace hU := Lib.hid (hU.out.below hst)
      replace hW5 := Lib.hid (hW5.out.below hst)
      replace hBx := Lib.hid (hBx.out.below hst hBx.out.lt)
      replace hBy := Lib.hid (hBy.out.below hst hBy.out.lt)
      replace hBs := Lib.hid (hBs.out.below hst hBs.out.lt)
      replace hbw := Lib.hid (hbw.out.trans (hst.mono hbw.out.size))
      clear hst y0 hP hrs
      have hend := Lib.hid (hfin.out _ hbw.out)
      clear hfin
      go_wp2_with fail
      exact hend.out
   · skip
     obtain ⟨V2, hy⟩ : ∃ V2, Go.Dr.accW 4 V r = (V2, Go.Dr.zeroS, 0) := ⟨(Go.Dr.accW 4 V r).1, by rw [← hy2]⟩
     obtain ⟨m2, hm2⟩ : ∃ m, V2.rs.length = m := ⟨_, rfl⟩
     have hac := Lib.hid (fun (W : World) hT hM => accept_at (K := fun _ => True) hy (m := m2) hm2 hr'.out hre.out (a := a) (n := n) (c := c) (w := W) hT hM)
     rw [hzS.out] at hac
     refine (hac.out _ (HT'.out.below hbw.out) hV.out).mono ?_
     rintro e w5 ⟨a5, c5, rfl, hW50, hst⟩
     replace hBv := Lib.hid (hBv.out.below hst hBv.out.lt)
     replace hBu := Lib.hid (hBu.out.below hst hBu.out.lt)
     replace hBr := Lib.hid (hBr.out.below hst hBr.out.lt)
     replace hV := Lib.hid (hV.out.below hst)
     replace hU := Lib.hid (hU.out.below hst)
     replace hbw := Lib.hid (hbw.out.trans (hst.mono hbw.out.size))
     have hW5 : Hid (WM (fun _ => True) w5 V2 a5 m2 c5) := hW50.imp (fun _ _ _ => trivial)
     clear hst hW50 hac
     have al : Below w5.heap.size w5 ((w5.alloc (.cells (wtC 0 none 0 0).toArray 32)).alloc (.cells (spC Go.Dr.zeroS).toArray 42)) := ((Below.refl _ w5).alloc (Nat.le_refl _) _).alloc (by simp) _
     have ba := (Blk.new w5 32 (wtC 0 none 0 0)).alloc (.cells (spC Go.Dr.zeroS).toArray 42)
     have bb := Blk.new (w5.alloc (.cells (wtC 0 none 0 0).toArray 32)) 42 (spC Go.Dr.zeroS)
     rw [World.size_alloc] at bb
     obtain ⟨v5a, hPa⟩ : ∃ Vq, Hid (PutR 32 ((w5.alloc (.cells (wtC 0 none 0 0).toArray 32)).alloc (.cells (spC Go.Dr.zeroS).toArray 42)) Vq w5.heap.size 32 (wtC V2.pub a5 m2 c5)) := put_row ba rfl sizeWt (wt_one _ _ _ _)
     obtain ⟨v5, hPb⟩ : ∃ Vq, Hid (PutR 42 v5a Vq (w5.heap.size + 1) 42 zS) := put_row (bb.grown hPa.out.grown (by intro e; injection e; omega)) hzl.out hzo.out hz1.out
     have hst := below_grown (below_grown al hPa.out.grown al.size (Nat.le_refl _)) hPb.out.grown (Nat.le_trans al.size hPa.out.grown.size) (Nat.le_succ _)
     have hBx := Lib.hid (hPa.out.blk.grown hPb.out.grown (by intro e; injection e; omega))
     have hBy := Lib.hid hPb.out.blk
     replace hBv := Lib.hid (hBv.out.below hst hBv.out.lt)
     replace hBu := Lib.hid (hBu.out.below hst hBu.out.lt)
     replace hBr := Lib.hid (hBr.out.below hst hBr.out.lt)
     replace hV := Lib.hid (hV.out.below hst)
     replace hU := Lib.hid (hU.out.below hst)
     replace hW5 := Lib.hid (hW5.out.below hst)
     replace hbw := Lib.hid (hbw.out.trans (hst.mono hbw.out.size))
     clear hst al ba bb
     obtain ⟨syb, hsyb⟩ : ∃ b, Hid (w5.heap.size + 1 = b) := ⟨_, rfl⟩
     rw [hsyb.out] at hBy
     have hry := Lib.hid hBy.out.range
     go_upto_region 6 with (first
      | (refine wpList_store_mid (by rfl) 32 (.tmp 7) (.tmp 26) (by rfl) w5.heap.size 0 (wtC V2.pub a5 m2 c5).toArray (by rfl) (by rfl) hPa.out.there hPa.out.info (by simpa using hPa.out.one) ?_
         generalize hWq : World.setCells _ _ _ _ = Wa
         obtain rfl : v5a = Wa := by rw [← hWq]; exact hPa.out.eq
         clear hWq)
          | (refine wpList_store_mid (by rfl) 42 (.tmp 8) (.tmp 27) (by rfl) (w5.heap.size + 1) 0 (zS).toArray (by rfl) (by rfl) hPb.out.there hPb.out.info (by simpa using hPb.out.one) ?_
             generalize hWq : World.setCells _ _ _ _ = Wa
             obtain rfl : v5 = Wa := by rw [← hWq]; exact hPb.out.eq
             clear hWq
             rw [hsyb.out]))
     clear hPa hPb
     go_upto_region 8 with fail
     go_upto_region 10 with (first
      | (refine wpList_load_gd (by rfl) 42 (.tmp 8) (by rfl) syb 0 (by rfl) zS _ hry.out Tryz.underlying42 (by rfl) hzo.out ?_)
       | (refine wpList_build_run (by rfl) 42 _ rfl #[] (by simp) (hzr.out _) ?_))
     clear hry
     have y0 := hBv.out.at_ (i := 0) (x := .int .i64 V.pub) rfl
     have y1 := hBv.out.at_ (i := 1) (x := .slice a n c) rfl
     have z0 := hBu.out.at_ (i := 0) (x := .int .i64 U.pub) rfl
     have z1 := hBu.out.at_ (i := 1) (x := .slice a2 n2 c2) rfl
     go_wp2_with fail
     clear y0 y1 z0 z1
     refine (hcmp.out _ (HT'.out.below hbw.out) hV.out hU.out).mono ?_
     rintro e w8 ⟨rfl, hst⟩
     replace hBv := Lib.hid (hBv.out.below hst hBv.out.lt)
     replace hBu := Lib.hid (hBu.out.below hst hBu.out.lt)
     replace hBr := Lib.hid (hBr.out.below hst hBr.out.lt)
     replace hV := Lib.hid (hV.out.below hst)
     replace hU := Lib.hid (hU.out.below hst)
     replace hW5 := Lib.hid (hW5.out.below hst)
     replace hBx := Lib.hid (hBx.out.below hst hBx.out.lt)
     replace hBy := Lib.hid (hBy.out.below hst hBy.out.lt)
     replace hbw := Lib.hid (hbw.out.trans (hst.mono hbw.out.size))
     clear hst
     obtain ⟨v8, hP⟩ : ∃ V, Hid (PutR 42 (w8.alloc (.cells (spC Go.Dr.zeroS : List Value).toArray 42)) V w8.heap.size 42 (sC)) := put_row (Blk.new w8 42 (spC Go.Dr.zeroS)) htl.out (hti.out) (ht1.out)
     have hst := below_grown ((Below.refl _ w8).alloc (Nat.le_refl _) _) hP.out.grown (by simp) (Nat.le_refl _)
     replace hBv := Lib.hid (hBv.out.below hst hBv.out.lt)
     replace hBu := Lib.hid (hBu.out.below hst hBu.out.lt)
     replace hBr := Lib.hid (hBr.out.below hst hBr.out.lt)
     replace hV := Lib.hid (hV.out.below hst)
     replace hU := Lib.hid (hU.out.below hst)
     replace hW5 := Lib.hid (hW5.out.below hst)
     replace hBx := Lib.hid (hBx.out.below hst hBx.out.lt)
     replace hBy := Lib.hid (hBy.out.below hst hBy.out.lt)
     replace hbw := Lib.hid (hbw.out.trans (hst.mono hbw.out.size))
     clear hst
     have hBs := Lib.hid hP.out.blk
     obtain ⟨sb8, hsb8⟩ : ∃ b, Hid (w8.heap.size = b) := ⟨_, rfl⟩
     rw [hsb8.out] at hBs
     cases bC with
     | false =>
      have hend := Lib.hid (hfin.out _ hbw.out)
      clear hfin
      go_wp2_with (first
       | (refine wpList_store_mid (by rfl) 42 (.tmp 10) (.tmp 55) (by rfl) w8.heap.size 0 (sC).toArray (by rfl) (by rfl) hP.out.there hP.out.info (by simpa using hP.out.one) ?_
          generalize hWq : World.setCells _ _ _ _ = Wa
          obtain rfl : v8 = Wa := by rw [← hWq]; exact hP.out.eq
          clear hWq
          rw [hsb8.out]))
      exact hend.out
     | true =>
      rw [hcpr.out rfl] at hpc
      have y0 := hBv.out.at_ (i := 0) (x := .int .i64 V.pub) rfl
      have hrs := Lib.hid hBs.out.range
      go_wp2_with (first
       | (refine wpList_store_mid (by rfl) 42 (.tmp 10) (.tmp 55) (by rfl) w8.heap.size 0 (sC).toArray (by rfl) (by rfl) hP.out.there hP.out.info (by simpa using hP.out.one) ?_
          generalize hWq : World.setCells _ _ _ _ = Wa
          obtain rfl : v8 = Wa := by rw [← hWq]; exact hP.out.eq
          clear hWq
          rw [hsb8.out])
           | (refine wpList_load_gd (by rfl) 42 (.tmp 10) (by rfl) sb8 0 (by rfl) sC _ hrs.out Tryz.underlying42 (by rfl) hti.out ?_))
      refine (hpc.out _ (HT'.out.below hbw.out)).mono ?_
      rintro e w9 ⟨rfl, hst⟩
      replace hBv := Lib.hid (hBv.out.below hst hBv.out.lt)
      replace hBu := Lib.hid (hBu.out.below hst hBu.out.lt)
      replace hBr := Lib.hid (hBr.out.below hst hBr.out.lt)
      replace hV := Lib.hid (hV.out.below hst)
      replace hU := Lib.hid (hU.out.below hst)
      replace hW5 := Lib.hid (hW5.out.below hst)
      replace hBx := Lib.hid (hBx.out.below hst hBx.out.lt)
      replace hBy := Lib.hid (hBy.out.below hst hBy.out.lt)
      replace hBs := Lib.hid (hBs.out.below hst hBs.out.lt)
      replace hbw := Lib.hid (hbw.out.trans (hst.mono hbw.out.size))
      clear hst y0 hP hrs
      have hend := Lib.hid (hfin.out _ hbw.out)
      clear hfin
      go_wp2_with fail
      exact hend.out
end Go.Proofs.YthnfjkgiaanmhaaGreatDoor
namespace Go.Proofs.YthnfjkgiaanmhaaGreatDoor.lawGProofs
open Go.ChangeShapes Go.WideShapes Go.ChangeAt Go.RowKit Go.Mem
open Go.Proofs.YthnfjkgiaanmhaaGreatDoor

set_option maxRecDepth 100000 in
theorem lifted (os : Os) (started : os.Started) (H : Type) (enc : TypeId × Value → H) :
 ReturnsInHanded {} Tryz.checked os 5 .any (fun w args => (Rows.gossipProofsSpec.pre enc Tryz.prog Tryz.f5 [] false w args ∧ laidMetH Tryz.prog laid2 w) ∧ sizedMet enc Tryz.prog Tryz.f5 (OpenSpec.ofChange Rows.gossipProofsSpec) false w args)
  (Rows.gossipProofsSpec.post enc Tryz.prog Tryz.f5 false true false false) := by
 refine returnsInHanded_of_change_and (C := Tryz.checked) (X := fun w _ => laidMetH Tryz.prog laid2 w) (fun _ _ _ hh h => h.of_heap hh) own started (by kernel_rfl) Tryz.func5
  (ChangeSpec.witness_shaped (enc := enc) (C := Tryz.checked) (os := os) (X := fun w _ => laidMetH Tryz.prog laid2 w) false (World.doorLaid Tryz.prog 400 os) #[.agg (wtC 0 none 0 0).toArray, .agg (wtC 0 none 0 0).toArray, .agg (rC Go.Dr.zeroR).toArray] 8 rfl (World.shaped_of_RefB (by kernel_rfl) (by kernel_rfl)) (by kernel_rfl) (by kernel_rfl) (by kernel_rfl) (door_met os _)) ?_
 intro W base args ds gs before hval0 hW _ hwt hL _
 have hval : ∀ (j : Nat) t v, Tryz.f5.params[j]? = some t → args[j]? = some v → Value.okWide Tryz.prog W .any base t v := hval0
 have hW' := hW
 obtain ⟨p, q, hA0, hV, rfl, hfz, hnd⟩ := hW
 have hA : DataW.TrodAll enc Tryz.prog W 0 (fun _ => true) true Tryz.f5.params.toList args.toList ds p := hA0
 rw [Tryz.params5] at hA hval
 obtain ⟨v0, vs0, d0, ds0, p0, q0, hargs, rfl, rfl, h0, r0⟩ := trodAll_cons hA
 obtain ⟨v1, vs1, d1, ds1, p1, q1, rfl, rfl, rfl, h1, r1⟩ := trodAll_cons r0
 obtain ⟨v2, vs2, d2, ds2, p2, q2, rfl, rfl, rfl, h2, r2⟩ := trodAll_cons r1
 obtain ⟨rfl, rfl, rfl⟩ := trodAll_nil r2
 obtain rfl : args = #[v0, v1, v2] := by cases args; simp_all
 obtain ⟨rfl, rfl⟩ := trodVars_none hV
 have lt0 : ∀ x ∈ p0, x.block < W.heap.size := by obtain ⟨m, hm⟩ := h0; exact DataW.trod_lt m _ _ _ hm
 have lt1 : ∀ x ∈ p1, x.block < W.heap.size := by obtain ⟨m, hm⟩ := h1; exact DataW.trod_lt m _ _ _ hm
 have lt2 : ∀ x ∈ p2, x.block < W.heap.size := by obtain ⟨m, hm⟩ := h2; exact DataW.trod_lt m _ _ _ hm
 have k0' := h0
 have k1' := h1
 have k2' := h2
 obtain ⟨cs0, rfl, _⟩ := okWide_struct Tryz.underlying32 (hval 0 32 v0 rfl rfl)
 obtain ⟨m0, hm0⟩ := h0
 obtain ⟨y0, a0, n0, c0, e0, S0⟩ := open_watch (cs := cs0.toList) (by simpa [Value.cells] using hm0)
 obtain rfl : cs0 = (wtC y0.pub a0 n0 c0).toArray := by rw [← e0]
 clear hm0 e0
 obtain ⟨cs1, rfl, _⟩ := okWide_struct Tryz.underlying32 (hval 1 32 v1 rfl rfl)
 obtain ⟨m1, hm1⟩ := h1
 obtain ⟨y1, a1, n1, c1, e1, S1⟩ := open_watch (cs := cs1.toList) (by simpa [Value.cells] using hm1)
 obtain rfl : cs1 = (wtC y1.pub a1 n1 c1).toArray := by rw [← e1]
 clear hm1 e1
 obtain ⟨cs2, rfl, _⟩ := okWide_struct Tryz.underlying40 (hval 2 40 v2 rfl rfl)
 obtain ⟨m2, hm2⟩ := h2
 obtain ⟨y2, ok2, e2⟩ := open_rt (cs := cs2.toList) (by simpa [Value.cells] using hm2)
 obtain rfl : cs2 = (rC y2).toArray := by rw [← e2]
 clear hm2 e2
 have hT := tabs_of_laid hL
 clear hA0 hval0
 refine (gproofs_walk y0 a0 n0 c0 y1 a1 n1 c1 y2 ok2 W hT S0 S1).mono fun e W' ⟨he, bel⟩ => ?_
 subst he
 exact ⟨_, rfl, _, _, _, [], _, [], hW', trodAll_mk1 (shut_bool Tryz.underlying4 _),
  (trodAll_cons_mk (Below.trod laidOut (by kernel_rfl) (of_decide_eq_true (by kernel_rfl)) k0' bel lt0) (trodAll_cons_mk (Below.trod laidOut (by kernel_rfl) (of_decide_eq_true (by kernel_rfl)) k1' bel lt1) (trodAll_cons_mk (Below.trod laidOut (by kernel_rfl) (of_decide_eq_true (by kernel_rfl)) k2' bel lt2) trodAll_mk0))), rfl, bel.frame _, fun h => by cases h⟩

theorem over : Rows.GossipProofsSaid :=
 OpenClaim.holds_of_wide 5 Tryz.f5 rfl rfl rfl rfl rfl rfl rfl ⟨rfl, rfl, rfl, rfl, rfl⟩ rfl rfl rfl rfl rfl (by kernel_rfl) Tryz.func5 (by kernel_rfl)
  (of_decide_eq_true (by kernel_rfl)) (by unfold Func.isWrapper; first | (rw [if_pos (by decide +kernel)]; kernel_rfl) | (rw [if_neg (by decide +kernel)]; exact ⟨rfl, rfl⟩))
  (fun os started H enc _ => lifted os started H enc)

theorem proved : Rows.GossipProofsCardSaid :=
 Claim7.holds_tied_plain_at .later [] [.data, .data, .sentinel] true (true, "c578d5295a2e4adb68b76fd72e8b48f6cb8355a5e326fb92d1d1f12a6d59b363") false
  over (fun _ h => by cases h) (by kernel_rfl) (fun _ h => by cases h) gossipProofs_row_tie rfl ⟨rfl, rfl⟩ (by kernel_rfl) rfl
  (fun f fn hf hfn => by
    obtain rfl : f = 5 := Option.some.inj ((show Tryz.prog.funcNamed "chartroom/chartroomlaw36.GossipProofs" = some 5 by kernel_rfl).symm.trans hf) |>.symm
    obtain rfl : fn = Tryz.f5 := (Option.some.inj (Tryz.func5.symm.trans hfn)).symm
    exact ⟨by kernel_rfl, fun j t ht => by
     rw [Tryz.params5] at ht
     have hm : t ∈ [32, 32, 40] := by simpa using Array.mem_of_getElem? ht
     have hall : ([32, 32, 40].all fun u => !Tryz.prog.wantsStandIn u) = true := by kernel_rfl
     exact (show Tryz.prog.wantsStandIn t = false by simpa using List.all_eq_true.1 hall t hm)⟩)
  (by kernel_rfl)
#print axioms proved
end Go.Proofs.YthnfjkgiaanmhaaGreatDoor.lawGProofs
