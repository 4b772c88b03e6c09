/- the law GossipAcceptSpec walked -/
import Derived.Test.YtlpgjdlkjahdgaaGreatDoorGe
import Derived.Test.YtlpgjdlkjahdgaaGreatDoorFw
import Derived.Test.YtlpgjdlkjahdgaaGreatDoorRd
import Derived.Test.YtlpgjdlkjahdgaaGreatDoorCards
import Derived.Test.YtlpgjdlkjahdgaaGreatDoorTie
import Derived.SevenTiedAt
import Derived.Deep.DeepHandedRow
import Derived.Deep.DeepWitnessRowRef
namespace Go.Proofs.YtlpgjdlkjahdgaaGreatDoor
open Go.RowKit Go.Mem
open Go.Dr (Lst Rt Dir Wt)

theorem raccept_at {K : Nat → Prop} {V V2 : Wt} {r : Rt} {s : Rt × Rt} {q : Int} {m : Nat} (h : Go.Dr.accW 4 V r = (V2, s, q)) (hm : V2.rs.length = m) (hr : OkQ r) {rr : List Value} (hrr : rC r = rr) {a : Option Addr} {n c : Nat} (hnb : n ≤ 100000) {w : World} (H : WM K w V a n c) :
 Calls Tryz.prog 46 #[.agg (wtC V.pub a n c).toArray, .agg rr.toArray] w (fun e w' => ∃ a' c', e = .returned (.tuple #[.agg (wtC V2.pub a' m c').toArray, .agg (spC s).toArray, .int .i64 q]) ∧ WM (fun b => (K b ∧ b < w.heap.size) ∨ w.heap.size ≤ b) w' V2 a' m c' ∧ Below w.heap.size w w') := by
 rw [← hrr]
 refine (r36accept_any K V a n c r hr w H hnb).mono ?_
 rintro e w' ⟨_, a', n', c', rfl, hW, hb⟩
 rw [h] at hW ⊢
 obtain rfl : m = n' := by rw [← hm]; exact hW.len
 exact ⟨a', c', rfl, hW, hb⟩

set_option maxRecDepth 100000 in
set_option maxHeartbeats 40000000 in
theorem gacceptspec_walk (V : Wt) (a : Option Addr) (n c : Nat) (r : Rt) (hr : OkQ r) (w : World) (HT : Tabs w) (H : WM (fun _ => True) w V a n c) :
 Calls Tryz.prog 8 #[.agg (wtC V.pub a n c).toArray, .agg (rC r).toArray] w (RetBo true w) := by
 have HT' := Lib.hid HT; have hr' := Lib.hid hr
 have hlv : Hid (V.rs.length = n) := H.len
 clear HT
 obtain ⟨X, hX⟩ : ∃ X, X = RetBo true w := ⟨_, rfl⟩
 have hfin : Hid (∀ W, Below w.heap.size w W → X (.returned (.bool true)) W) := fun W hb => by rw [hX]; exact ⟨rfl, hb⟩
 rw [← hX]
 clear hX
 obtain ⟨y, hy0⟩ : ∃ y, Hid (Go.Dr.accW 4 V r = y) := ⟨_, rfl⟩
 obtain ⟨V2, C, E⟩ := y
 have hok : Hid (OkS C) := by
  have := acc_okR (V := V) H.qs.oks hr
  rw [hy0.out] at this
  exact this
 obtain ⟨m2, hm2⟩ : ∃ m, Hid (V2.rs.length = m) := ⟨_, rfl⟩
 obtain ⟨rr, hre⟩ : ∃ z, Hid (rC r = z) := ⟨_, rfl⟩
 obtain ⟨sC, hsC⟩ : ∃ z, Hid (spC C = z) := ⟨_, rfl⟩
 have hri : Hid ((Tryz.prog.info? 62).map (·.size) = some rr.length) := by show _ = _; rw [← hre.out, rC_length hr]; exact sizeR
 have hfl : Hid (sC.length = (spC Go.Dr.zeroS).length) := by show _ = _; rw [← hsC.out, spC_length hok.out, spC_length okZS]
 have hfi : Hid ((Tryz.prog.info? 64).map (·.size) = some sC.length) := by show _ = _; rw [← hsC.out]; exact sizeSp' hok.out
 have hf1 : Hid (∀ u ∈ sC, u.oneCell' = true) := by rw [← hsC.out]; exact spC_one C
 have heq : ∀ W : World, (Op.equalIn 10000 64 (.agg sC.toArray) (.agg sC.toArray)).run Tryz.prog W = .ok true W := by rw [← hsC.out]; exact fun W => eq_split hok.out W
 have hEE : (E == E) = true := by simp
 rw [hre.out]
 clear hr
 obtain ⟨v0, hW0⟩ : ∃ W, Hid (((w.alloc (.cells (wtC V.pub a n c).toArray 69)).alloc (.cells (rr).toArray 62)) = W) := ⟨_, rfl⟩
 obtain ⟨b0, hb0⟩ : ∃ b, Hid (w.heap.size = b) := ⟨_, rfl⟩
 obtain ⟨b1, hb1⟩ : ∃ b, Hid (b0 + 1 = b) := ⟨_, rfl⟩
 have hBv : Hid (Blk v0 b0 69 (wtC V.pub a n c)) := by
  rw [← hW0.out, ← hb0.out]
  have hh := (Blk.new w 69 (wtC V.pub a n c)).alloc (.cells (rr).toArray 62)
  exact hh
 have hBr : Hid (Blk v0 b1 62 (rr)) := by
  rw [← hW0.out, ← hb1.out, ← hb0.out]
  have hh := Blk.new (w.alloc (.cells (wtC V.pub a n c).toArray 69)) 62 (rr)
  rw [World.size_alloc] at hh
  exact hh
 have hbw : Hid (Below w.heap.size w v0) := by rw [← hW0.out]; exact ((Below.refl _ w).alloc (Nat.le_refl _) _).alloc (by simp) _
 have hW0q := hW0.out
 have hV := Lib.hid (H.below hbw.out)
 clear H
 go_enter Tryz.func8, Tryz.ntmps8
 go_upto_region 1 with fail
 rw [hb0.out, hb1.out]
 generalize hWz : World.alloc _ _ = Wz
 obtain rfl : v0 = Wz := by rw [← hWz]; exact hW0q.symm
 clear hWz hW0q hW0
 go_wp2_with fail
 refine (sane36_any _ (HT'.out.below hbw.out)).mono ?_
 rintro e w1 ⟨rfl, hst⟩
 replace hBv := Lib.hid (hBv.out.below hst hBv.out.lt)
 replace hBr := Lib.hid (hBr.out.below hst hBr.out.lt)
 replace hV := Lib.hid (hV.out.below hst)
 replace hbw := Lib.hid (hbw.out.trans (hst.mono hbw.out.size))
 clear hst
 have y0 := hBv.out.at_ (i := 0) (x := .int .i64 V.pub) rfl
 have y1 := hBv.out.at_ (i := 1) (x := .slice a n c) rfl
 go_wp2_with fail
 clear y0 y1
 obtain ⟨FW, hFW⟩ : ∃ b, Hid (few36 V = b) := ⟨_, rfl⟩
 have hfw := Lib.hid (fun W => few36_any V a n c hlv.out W)
 rw [hFW.out] at hfw
 refine (hfw.out _).mono ?_
 rintro e w2 ⟨rfl, hst⟩
 replace hBv := Lib.hid (hBv.out.below hst hBv.out.lt)
 replace hBr := Lib.hid (hBr.out.below hst hBr.out.lt)
 replace hV := Lib.hid (hV.out.below hst)
 replace hbw := Lib.hid (hbw.out.trans (hst.mono hbw.out.size))
 clear hst hfw
 cases FW with
 | false =>
  have hend := Lib.hid (hfin.out _ hbw.out)
  clear hfin
  go_wp2_with fail
  exact hend.out
 | true =>
  have hnb : Hid (n ≤ 100000) := by
   have h := hFW.out
   unfold few36 at h
   rw [hlv.out] at h
   have := of_decide_eq_true h
   show _ ≤ _
   omega
  have y0 := hBv.out.at_ (i := 0) (x := .int .i64 V.pub) rfl
  have y1 := hBv.out.at_ (i := 1) (x := .slice a n c) rfl
  have hrg := Lib.hid hBr.out.range
  go_wp2_with (first
   | (refine wpList_load_mid (by rfl) 62 (.tmp 3) (by rfl) b1 0 (by rfl) rr _ hrg.out Tryz.underlying62 (by rfl) hri.out ?_))
  clear y0 y1 hrg
  have hac := Lib.hid (fun (W : World) hT hM => accept_at (K := fun _ => True) hy0.out (m := m2) hm2.out hr'.out hre.out (a := a) (n := n) (c := c) (w := W) hT hM)
  rw [hsC.out] at hac
  refine (hac.out _ (HT'.out.below hbw.out) hV.out).mono ?_
  rintro e w5 ⟨a5, c5, rfl, hW50, hst⟩
  replace hBv := Lib.hid (hBv.out.below hst hBv.out.lt)
  replace hBr := Lib.hid (hBr.out.below hst hBr.out.lt)
  replace hV := Lib.hid (hV.out.below hst)
  replace hbw := Lib.hid (hbw.out.trans (hst.mono hbw.out.size))
  have hW5 : Hid (WM (fun _ => True) w5 V2 a5 m2 c5) := hW50.imp (fun _ _ _ => trivial)
  clear hst hW50 hac
  have al : Below w5.heap.size w5 ((w5.alloc (.cells (wtC 0 none 0 0).toArray 69)).alloc (.cells (spC Go.Dr.zeroS).toArray 64)) := ((Below.refl _ w5).alloc (Nat.le_refl _) _).alloc (by simp) _
  have ba := (Blk.new w5 69 (wtC 0 none 0 0)).alloc (.cells (spC Go.Dr.zeroS).toArray 64)
  have bb := Blk.new (w5.alloc (.cells (wtC 0 none 0 0).toArray 69)) 64 (spC Go.Dr.zeroS)
  rw [World.size_alloc] at bb
  obtain ⟨v5a, hPa⟩ : ∃ Vq, Hid (PutR 69 ((w5.alloc (.cells (wtC 0 none 0 0).toArray 69)).alloc (.cells (spC Go.Dr.zeroS).toArray 64)) Vq w5.heap.size 69 (wtC V2.pub a5 m2 c5)) := put_row ba rfl sizeWt (wt_one _ _ _ _)
  obtain ⟨v5, hPb⟩ : ∃ Vq, Hid (PutR 64 v5a Vq (w5.heap.size + 1) 64 sC) := put_row (bb.grown hPa.out.grown (by intro e; injection e; omega)) hfl.out hfi.out hf1.out
  have hst := below_grown (below_grown al hPa.out.grown al.size (Nat.le_refl _)) hPb.out.grown (Nat.le_trans al.size hPa.out.grown.size) (Nat.le_succ _)
  have hBx := Lib.hid (hPa.out.blk.grown hPb.out.grown (by intro e; injection e; omega))
  have hBy := Lib.hid hPb.out.blk
  replace hBv := Lib.hid (hBv.out.below hst hBv.out.lt)
  replace hBr := Lib.hid (hBr.out.below hst hBr.out.lt)
  replace hV := Lib.hid (hV.out.below hst)
  replace hW5 := Lib.hid (hW5.out.below hst)
  replace hbw := Lib.hid (hbw.out.trans (hst.mono hbw.out.size))
  clear hst al ba bb
  obtain ⟨sx5, hsx5⟩ : ∃ b, Hid (w5.heap.size = b) := ⟨_, rfl⟩
  rw [hsx5.out] at hBx hBy
  go_upto_region 6 with (first
   | (refine wpList_store_mid (by rfl) 69 (.tmp 5) (.tmp 20) (by rfl) w5.heap.size 0 (wtC V2.pub a5 m2 c5).toArray (by rfl) (by rfl) hPa.out.there hPa.out.info (by simpa using hPa.out.one) ?_
      generalize hWq : World.setCells _ _ _ _ = Wa
      obtain rfl : v5a = Wa := by rw [← hWq]; exact hPa.out.eq
      clear hWq)
       | (refine wpList_store_mid (by rfl) 64 (.tmp 6) (.tmp 21) (by rfl) (w5.heap.size + 1) 0 (sC).toArray (by rfl) (by rfl) hPb.out.there hPb.out.info (by simpa using hPb.out.one) ?_
          generalize hWq : World.setCells _ _ _ _ = Wa
          obtain rfl : v5 = Wa := by rw [← hWq]; exact hPb.out.eq
          clear hWq))
  clear hPa hPb
  rw [hsx5.out]
  have y0 := hBv.out.at_ (i := 0) (x := .int .i64 V.pub) rfl
  have y1 := hBv.out.at_ (i := 1) (x := .slice a n c) rfl
  have hrg := Lib.hid hBr.out.range
  go_wp2_with (first
   | (refine wpList_load_mid (by rfl) 62 (.tmp 3) (by rfl) b1 0 (by rfl) rr _ hrg.out Tryz.underlying62 (by rfl) hri.out ?_))
  clear y0 y1 hrg
  have hac := Lib.hid (fun (W : World) hM => raccept_at (K := fun _ => True) hy0.out (m := m2) hm2.out hr'.out hre.out (a := a) (n := n) (c := c) hnb.out (w := W) hM)
  rw [hsC.out] at hac
  refine (hac.out _ hV.out).mono ?_
  rintro e w6 ⟨a6, c6, rfl, hW50, hst⟩
  replace hBv := Lib.hid (hBv.out.below hst hBv.out.lt)
  replace hBr := Lib.hid (hBr.out.below hst hBr.out.lt)
  replace hV := Lib.hid (hV.out.below hst)
  replace hW5 := Lib.hid (hW5.out.below hst)
  replace hBx := Lib.hid (hBx.out.below hst hBx.out.lt)
  replace hBy := Lib.hid (hBy.out.below hst hBy.out.lt)
  replace hbw := Lib.hid (hbw.out.trans (hst.mono hbw.out.size))
  have hW6 : Hid (WM (fun _ => True) w6 V2 a6 m2 c6) := hW50.imp (fun _ _ _ => trivial)
  clear hst hW50 hac
  have al : Below w6.heap.size w6 ((w6.alloc (.cells (wtC 0 none 0 0).toArray 69)).alloc (.cells (spC Go.Dr.zeroS).toArray 64)) := ((Below.refl _ w6).alloc (Nat.le_refl _) _).alloc (by simp) _
  have ba := (Blk.new w6 69 (wtC 0 none 0 0)).alloc (.cells (spC Go.Dr.zeroS).toArray 64)
  have bb := Blk.new (w6.alloc (.cells (wtC 0 none 0 0).toArray 69)) 64 (spC Go.Dr.zeroS)
  rw [World.size_alloc] at bb
  obtain ⟨v6a, hPa⟩ : ∃ Vq, Hid (PutR 69 ((w6.alloc (.cells (wtC 0 none 0 0).toArray 69)).alloc (.cells (spC Go.Dr.zeroS).toArray 64)) Vq w6.heap.size 69 (wtC V2.pub a6 m2 c6)) := put_row ba rfl sizeWt (wt_one _ _ _ _)
  obtain ⟨v6, hPb⟩ : ∃ Vq, Hid (PutR 64 v6a Vq (w6.heap.size + 1) 64 sC) := put_row (bb.grown hPa.out.grown (by intro e; injection e; omega)) hfl.out hfi.out hf1.out
  have hst := below_grown (below_grown al hPa.out.grown al.size (Nat.le_refl _)) hPb.out.grown (Nat.le_trans al.size hPa.out.grown.size) (Nat.le_succ _)
  have hBx6 := Lib.hid (hPa.out.blk.grown hPb.out.grown (by intro e; injection e; omega))
  have hBy6 := Lib.hid hPb.out.blk
  replace hBv := Lib.hid (hBv.out.below hst hBv.out.lt)
  replace hBr := Lib.hid (hBr.out.below hst hBr.out.lt)
  replace hV := Lib.hid (hV.out.below hst)
  replace hW5 := Lib.hid (hW5.out.below hst)
  replace hBx := Lib.hid (hBx.out.below hst hBx.out.lt)
  replace hBy := Lib.hid (hBy.out.below hst hBy.out.lt)
  replace hW6 := Lib.hid (hW6.out.below hst)
  replace hbw := Lib.hid (hbw.out.trans (hst.mono hbw.out.size))
  clear hst al ba bb
  obtain ⟨sx6, hsx6⟩ : ∃ b, Hid (w6.heap.size = b) := ⟨_, rfl⟩
  rw [hsx6.out] at hBx6 hBy6
  go_upto_region 7 with (first
   | (refine wpList_store_mid (by rfl) 69 (.tmp 8) (.tmp 27) (by rfl) w6.heap.size 0 (wtC V2.pub a6 m2 c6).toArray (by rfl) (by rfl) hPa.out.there hPa.out.info (by simpa using hPa.out.one) ?_
      generalize hWq : World.setCells _ _ _ _ = Wa
      obtain rfl : v6a = Wa := by rw [← hWq]; exact hPa.out.eq
      clear hWq)
       | (refine wpList_store_mid (by rfl) 64 (.tmp 9) (.tmp 28) (by rfl) (w6.heap.size + 1) 0 (sC).toArray (by rfl) (by rfl) hPb.out.there hPb.out.info (by simpa using hPb.out.one) ?_
          generalize hWq : World.setCells _ _ _ _ = Wa
          obtain rfl : v6 = Wa := by rw [← hWq]; exact hPb.out.eq
          clear hWq))
  clear hPa hPb
  rw [hsx6.out]
  have x0 := hBx.out.at_ (i := 0) (x := .int .i64 V2.pub) rfl
  have x1 := hBx.out.at_ (i := 1) (x := .slice a5 m2 c5) rfl
  have z0 := hBx6.out.at_ (i := 0) (x := .int .i64 V2.pub) rfl
  have z1 := hBx6.out.at_ (i := 1) (x := .slice a6 m2 c6) rfl
  go_wp2_with fail
  clear x0 x1 z0 z1
  refine (same36_any (fun _ => True) (fun _ => True) V2 a5 m2 c5 a6 c6 _ hW5.out hW6.out).mono ?_
  rintro e w7 ⟨rfl, hst⟩
  replace hBv := Lib.hid (hBv.out.below hst hBv.out.lt)
  replace hBr := Lib.hid (hBr.out.below hst hBr.out.lt)
  replace hV := Lib.hid (hV.out.below hst)
  replace hW5 := Lib.hid (hW5.out.below hst)
  replace hBx := Lib.hid (hBx.out.below hst hBx.out.lt)
  replace hBy := Lib.hid (hBy.out.below hst hBy.out.lt)
  replace hW6 := Lib.hid (hW6.out.below hst)
  replace hBx6 := Lib.hid (hBx6.out.below hst hBx6.out.lt)
  replace hBy6 := Lib.hid (hBy6.out.below hst hBy6.out.lt)
  replace hbw := Lib.hid (hbw.out.trans (hst.mono hbw.out.size))
  clear hst
  have hrg5 := Lib.hid hBy.out.range
  have hrg6 := Lib.hid hBy6.out.range
  have hend := Lib.hid (hfin.out _ hbw.out)
  clear hfin
  go_wp2_with (first
   | (refine wpList_load_gd (by rfl) 64 (.tmp 6) (by rfl) (sx5 + 1) 0 (by rfl) sC _ hrg5.out Tryz.underlying64 (by rfl) hfi.out ?_)
    | (refine wpList_load_gd (by rfl) 64 (.tmp 9) (by rfl) (sx6 + 1) 0 (by rfl) sC _ hrg6.out Tryz.underlying64 (by rfl) hfi.out ?_))
  exact hend.out
end Go.Proofs.YtlpgjdlkjahdgaaGreatDoor
namespace Go.Proofs.YtlpgjdlkjahdgaaGreatDoor.lawGAcceptSpec
open Go.ChangeShapes Go.WideShapes Go.ChangeAt Go.RowKit Go.Mem
open Go.Proofs.YtlpgjdlkjahdgaaGreatDoor

set_option maxRecDepth 100000 in
theorem lifted (os : Os) (started : os.Started) (H : Type) (enc : TypeId × Value → H) :
 ReturnsInHanded {} Tryz.checked os 8 .any (fun w args => (Rows.gossipAcceptSpecSpec.pre enc Tryz.prog Tryz.f8 [] false w args ∧ laidMetH Tryz.prog laid2 w) ∧ sizedMet enc Tryz.prog Tryz.f8 (OpenSpec.ofChange Rows.gossipAcceptSpecSpec) false w args)
  (Rows.gossipAcceptSpecSpec.post enc Tryz.prog Tryz.f8 false true false false) := by
 refine returnsInHanded_of_change_and (C := Tryz.checked) (X := fun w _ => laidMetH Tryz.prog laid2 w) (fun _ _ _ hh h => h.of_heap hh) own started (by kernel_rfl) Tryz.func8
  (ChangeSpec.witness_shaped (enc := enc) (C := Tryz.checked) (os := os) (X := fun w _ => laidMetH Tryz.prog laid2 w) false (World.doorLaid Tryz.prog 400 os) #[.agg (wtC 0 none 0 0).toArray, .agg (rC Go.Dr.zeroR).toArray] 8 rfl (World.shaped_of_RefB (by kernel_rfl) (by kernel_rfl)) (by kernel_rfl) (by kernel_rfl) (by kernel_rfl) (door_met os _)) ?_
 intro W base args ds gs before hval0 hW _ hwt hL _
 have hval : ∀ (j : Nat) t v, Tryz.f8.params[j]? = some t → args[j]? = some v → Value.okWide Tryz.prog W .any base t v := hval0
 have hW' := hW
 obtain ⟨p, q, hA0, hV, rfl, hfz, hnd⟩ := hW
 have hA : DataW.TrodAll enc Tryz.prog W 0 (fun _ => true) true Tryz.f8.params.toList args.toList ds p := hA0
 rw [Tryz.params8] at hA hval
 obtain ⟨v0, vs0, d0, ds0, p0, q0, hargs, rfl, rfl, h0, r0⟩ := trodAll_cons hA
 obtain ⟨v1, vs1, d1, ds1, p1, q1, rfl, rfl, rfl, h1, r1⟩ := trodAll_cons r0
 obtain ⟨rfl, rfl, rfl⟩ := trodAll_nil r1
 obtain rfl : args = #[v0, v1] := by cases args; simp_all
 obtain ⟨rfl, rfl⟩ := trodVars_none hV
 have lt0 : ∀ x ∈ p0, x.block < W.heap.size := by obtain ⟨m, hm⟩ := h0; exact DataW.trod_lt m _ _ _ hm
 have lt1 : ∀ x ∈ p1, x.block < W.heap.size := by obtain ⟨m, hm⟩ := h1; exact DataW.trod_lt m _ _ _ hm
 have k0' := h0
 have k1' := h1
 obtain ⟨cs0, rfl, _⟩ := okWide_struct Tryz.underlying69 (hval 0 69 v0 rfl rfl)
 obtain ⟨m0, hm0⟩ := h0
 obtain ⟨y0, a0, n0, c0, e0, S0⟩ := open_watch (cs := cs0.toList) (by simpa [Value.cells] using hm0)
 obtain rfl : cs0 = (wtC y0.pub a0 n0 c0).toArray := by rw [← e0]
 clear hm0 e0
 obtain ⟨cs1, rfl, _⟩ := okWide_struct Tryz.underlying62 (hval 1 62 v1 rfl rfl)
 obtain ⟨m1, hm1⟩ := h1
 obtain ⟨y1, ok1, e1⟩ := open_rt (cs := cs1.toList) (by simpa [Value.cells] using hm1)
 obtain rfl : cs1 = (rC y1).toArray := by rw [← e1]
 clear hm1 e1
 have hT := tabs_of_laid hL
 clear hA0 hval0
 refine (gacceptspec_walk y0 a0 n0 c0 y1 ok1 W hT S0).mono fun e W' ⟨he, bel⟩ => ?_
 subst he
 exact ⟨_, rfl, _, _, _, [], _, [], hW', trodAll_mk1 (shut_bool Tryz.underlying4 _),
  (trodAll_cons_mk (Below.trod laidOut (by kernel_rfl) (of_decide_eq_true (by kernel_rfl)) k0' bel lt0) (trodAll_cons_mk (Below.trod laidOut (by kernel_rfl) (of_decide_eq_true (by kernel_rfl)) k1' bel lt1) trodAll_mk0)), rfl, bel.frame _, fun h => by cases h⟩

theorem over : Rows.GossipAcceptSpecSaid :=
 OpenClaim.holds_of_wide 8 Tryz.f8 rfl rfl rfl rfl rfl rfl rfl ⟨rfl, rfl, rfl, rfl, rfl⟩ rfl rfl rfl rfl rfl (by kernel_rfl) Tryz.func8 (by kernel_rfl)
  (of_decide_eq_true (by kernel_rfl)) (by unfold Func.isWrapper; first | (rw [if_pos (by decide +kernel)]; kernel_rfl) | (rw [if_neg (by decide +kernel)]; exact ⟨rfl, rfl⟩))
  (fun os started H enc _ => lifted os started H enc)

theorem proved : Rows.GossipAcceptSpecCardSaid :=
 Claim7.holds_tied_plain_at .later [] [.data, .data, .sentinel] true (true, "0e71b2c2558acfe1f4ed3f440e2dab26401bb835ffca5b2d0e5c9d75e6479122") false
  over (fun _ h => by cases h) (by kernel_rfl) (fun _ h => by cases h) gossipAcceptSpec_row_tie rfl ⟨rfl, rfl⟩ (by kernel_rfl) rfl
  (fun f fn hf hfn => by
    obtain rfl : f = 8 := Option.some.inj ((show Tryz.prog.funcNamed "chartroom/chartroomlaw36.GossipAcceptSpec" = some 8 by kernel_rfl).symm.trans hf) |>.symm
    obtain rfl : fn = Tryz.f8 := (Option.some.inj (Tryz.func8.symm.trans hfn)).symm
    exact ⟨by kernel_rfl, fun j t ht => by
     rw [Tryz.params8] at ht
     have hm : t ∈ [69, 62] := by simpa using Array.mem_of_getElem? ht
     have hall : ([69, 62].all fun u => !Tryz.prog.wantsStandIn u) = true := by kernel_rfl
     exact (show Tryz.prog.wantsStandIn t = false by simpa using List.all_eq_true.1 hall t hm)⟩)
  (by kernel_rfl)
#print axioms proved
end Go.Proofs.YtlpgjdlkjahdgaaGreatDoor.lawGAcceptSpec
