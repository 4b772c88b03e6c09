/- the law GossipRemember walked -/
import Derived.Test.YthnfjkgiaanmhaaGreatDoorGd
import Derived.Test.YthnfjkgiaanmhaaGreatDoorRe
import Derived.Test.YthnfjkgiaanmhaaGreatDoorCards
import Derived.Test.YthnfjkgiaanmhaaGreatDoorTie
import Derived.SevenTiedAt
import Derived.Deep.DeepHandedRow
import Derived.Deep.DeepWitnessRowRef
namespace Go.Proofs.YthnfjkgiaanmhaaGreatDoor
open Go.RowKit Go.Mem
open Go.Dr (Lst Rt Dir Wt)

section
variable {H : Type} {enc : TypeId × Value → H} {W : World}
theorem cellsWt : Tryz.prog.cellsOf 32 = 2 := by kernel_rfl
theorem open_watch {fuel : Nat} {cs : List Value} {x : DataW H × List MemPlace} (h : DataW.trod enc Tryz.prog W 0 (fun _ => true) true fuel 32 cs = some x) : ∃ (V : Wt) (a : Option Addr) (n c : Nat), cs = wtC V.pub a n c ∧ WM (fun _ => True) W V a n c := by
 obtain ⟨xs, n, _, rfl, hl, hlen, hf⟩ := DataW.trod_struct Tryz.underlying32 h
 rw [cellsWt] at hl
 match xs, hlen with
 | [y0, y1], _ =>
  have h0 : DataW.trod enc Tryz.prog W 0 (fun _ => true) true n 3 ((cs.drop 0).take (Tryz.prog.cellsOf 3)) = some y0 := hf 0 _ rfl
  rw [cellsInt] at h0
  have h1 : DataW.trod enc Tryz.prog W 0 (fun _ => true) true n 25 ((cs.drop 1).take (Tryz.prog.cellsOf 25)) = some y1 := hf 1 _ rfl
  rw [cellsRl] at h1
  obtain ⟨p, e0, i0⟩ := open_int1 h0
  obtain ⟨ra, rn, rc, r, e1, hQ⟩ := open_rts h1
  have q2 : cs.drop 2 = [] := List.drop_eq_nil_of_le (by omega)
  have q1 : cs.drop 1 = [.slice ra rn rc] := by rw [drop_parts cs 1 1 2 rfl, e1, q2]; rfl
  have q0 : cs.drop 0 = [.int .i64 p, .slice ra rn rc] := by rw [drop_parts cs 0 1 1 rfl, e0, q1]; rfl
  exact ⟨⟨p, r⟩, ra, rn, rc, q0, i0, hQ⟩
end
end Go.Proofs.YthnfjkgiaanmhaaGreatDoor
namespace Go.Proofs.YthnfjkgiaanmhaaGreatDoor
open Go.RowKit Go.Mem
open Go.Dr (Lst Rt Dir Wt)

theorem met_step {l : List Rt} {k : Nat} {x r : Rt} {b : Bool} (h : b = true ∨ ∀ (j : Nat), j < k → l[j]? ≠ some r) (hx : l[k]? = some x) : (b || Go.Dr.eqR x r) = true ∨ ∀ (j : Nat), j < k + 1 → l[j]? ≠ some r := by
 cases e : Go.Dr.eqR x r with
 | true => exact .inl (by simp)
 | false =>
  rcases h with rfl | h
  · exact .inl rfl
  · refine .inr fun j hj e2 => ?_
    by_cases hjk : j = k
    · subst hjk
      rw [hx] at e2
      cases e2
      rw [Go.Dr.eqR_refl] at e
      cases e
    · exact h j (by omega) e2
theorem met_end {l : List Rt} {k : Nat} {r : Rt} {b : Bool} (h : b = true ∨ ∀ (j : Nat), j < k → l[j]? ≠ some r) (hl : l.length ≤ k) (hr : r ∈ l) : b = true := by
 rcases h with h | h
 · exact h
 · obtain ⟨j, hj⟩ := List.mem_iff_getElem?.1 hr
   exact absurd hj (h j (by have := (List.getElem?_eq_some_iff.1 hj).1; omega))

set_option maxRecDepth 100000 in
set_option maxHeartbeats 40000000 in
theorem gremember_walk (V : Wt) (a : Option Addr) (n c : Nat) (r : Rt) (hr : OkQ r) (w : World) (HT : Tabs w) (H : WM (fun _ => True) w V a n c) :
 Calls Tryz.prog 7 #[.agg (wtC V.pub a n c).toArray, .agg (rC r).toArray] w (RetBo true w) := by
 have HT' := Lib.hid HT; have hr' := Lib.hid hr
 have hlv : Hid (V.rs.length = n) := H.len
 have hn63 := Lib.hid H.n63
 clear HT
 obtain ⟨X, hX⟩ : ∃ X, X = RetBo true w := ⟨_, rfl⟩
 have hfin : Hid (∀ W, Below w.heap.size w W → X (.returned (.bool true)) W) := fun W hb => by rw [hX]; exact ⟨rfl, hb⟩
 rw [← hX]
 clear hX
 obtain ⟨zS, hzS⟩ : ∃ z, Hid (spC Go.Dr.zeroS = z) := ⟨_, rfl⟩
 have hzo : Hid ((Tryz.prog.info? 42).map (·.size) = some zS.length) := by rw [← hzS.out]; exact sizeSp' okZS
 have hz1 : Hid (∀ u ∈ zS, u.oneCell' = true) := by rw [← hzS.out]; exact spC_one _
 have hzl : Hid (zS.length = (spC Go.Dr.zeroS).length) := by show _ = _; rw [← hzS.out]
 have hzr : Hid (∀ W, (Instr.build 42 #[]).run Tryz.prog W = .ok (.agg zS.toArray) W) := fun W => by rw [← hzS.out]; exact split_zero W
 obtain ⟨rr, hre⟩ : ∃ z, Hid (rC r = z) := ⟨_, rfl⟩
 have hri : Hid ((Tryz.prog.info? 40).map (·.size) = some rr.length) := by show _ = _; rw [← hre.out, rC_length hr]; exact sizeR
 rw [hre.out]
 clear hr
 obtain ⟨v0, hW0⟩ : ∃ W, Hid (((w.alloc (.cells (wtC V.pub a n c).toArray 32)).alloc (.cells (rr).toArray 40)) = W) := ⟨_, rfl⟩
 obtain ⟨b0, hb0⟩ : ∃ b, Hid (w.heap.size = b) := ⟨_, rfl⟩
 obtain ⟨b1, hb1⟩ : ∃ b, Hid (b0 + 1 = b) := ⟨_, rfl⟩
 have hBv : Hid (Blk v0 b0 32 (wtC V.pub a n c)) := by
  rw [← hW0.out, ← hb0.out]
  have hh := (Blk.new w 32 (wtC V.pub a n c)).alloc (.cells (rr).toArray 40)
  exact hh
 have hBr : Hid (Blk v0 b1 40 (rr)) := by
  rw [← hW0.out, ← hb1.out, ← hb0.out]
  have hh := Blk.new (w.alloc (.cells (wtC V.pub a n c).toArray 32)) 40 (rr)
  rw [World.size_alloc] at hh
  exact hh
 have hbw : Hid (Below w.heap.size w v0) := by rw [← hW0.out]; exact ((Below.refl _ w).alloc (Nat.le_refl _) _).alloc (by simp) _
 have hW0q := hW0.out
 have hV := Lib.hid (H.below hbw.out)
 clear H
 go_enter Tryz.func7, Tryz.ntmps7
 go_upto_region 1 with fail
 rw [hb0.out, hb1.out]
 generalize hWz : World.alloc _ _ = Wz
 obtain rfl : v0 = Wz := by rw [← hWz]; exact hW0q.symm
 clear hWz hW0q hW0
 go_wp2_with fail
 refine (sane36_any _ (HT'.out.below hbw.out)).mono ?_
 rintro e w1 ⟨rfl, hst⟩
 replace hBv := Lib.hid (hBv.out.below hst hBv.out.lt)
 replace hBr := Lib.hid (hBr.out.below hst hBr.out.lt)
 replace hV := Lib.hid (hV.out.below hst)
 replace hbw := Lib.hid (hbw.out.trans (hst.mono hbw.out.size))
 clear hst
 have y0 := hBv.out.at_ (i := 0) (x := .int .i64 V.pub) rfl
 have y1 := hBv.out.at_ (i := 1) (x := .slice a n c) rfl
 go_wp2_with fail
 clear y0 y1
 refine (few36_any V a n c hlv.out _).mono ?_
 rintro e w2 ⟨rfl, hst⟩
 replace hBv := Lib.hid (hBv.out.below hst hBv.out.lt)
 replace hBr := Lib.hid (hBr.out.below hst hBr.out.lt)
 replace hV := Lib.hid (hV.out.below hst)
 replace hbw := Lib.hid (hbw.out.trans (hst.mono hbw.out.size))
 clear hst
 have hfw : Hid (few36 V = decide (V.rs.length ≤ 12)) := rfl
 cases hfb : few36 V with
 | false =>
  have hend := Lib.hid (hfin.out _ hbw.out)
  clear hfin
  go_wp2_with fail
  exact hend.out
 | true =>
  have hsml : Hid (n ≤ 12) := by have h := hfw.out; rw [hfb] at h; have := of_decide_eq_true h.symm; have := hlv.out; show _ ≤ _; omega
  clear hfw hfb
  have y0 := hBv.out.at_ (i := 0) (x := .int .i64 V.pub) rfl
  have y1 := hBv.out.at_ (i := 1) (x := .slice a n c) rfl
  have hrg := Lib.hid hBr.out.range
  go_wp2_with (first
   | (refine wpList_load_mid (by rfl) 40 (.tmp 3) (by rfl) b1 0 (by rfl) rr _ hrg.out Tryz.underlying40 (by rfl) hri.out ?_))
  clear y0 y1 hrg
  rcases Go.Dr.acc_cases 4 V r with ⟨hy, _⟩ | ⟨_, _, hcf, hy⟩ | ⟨_, _, _, hy2⟩
  · skip
    have hac := Lib.hid (fun (W : World) hT hM => accept_at (K := fun _ => True) hy (m := 0) rfl hr'.out hre.out (a := a) (n := n) (c := c) (w := W) hT hM)
    rw [hzS.out] at hac
    refine (hac.out _ (HT'.out.below hbw.out) hV.out).mono ?_
    rintro e w5 ⟨a5, c5, rfl, hW50, hst⟩
    replace hBv := Lib.hid (hBv.out.below hst hBv.out.lt)
    replace hBr := Lib.hid (hBr.out.below hst hBr.out.lt)
    replace hV := Lib.hid (hV.out.below hst)
    replace hbw := Lib.hid (hbw.out.trans (hst.mono hbw.out.size))
    have hW5 : Hid (WM (fun _ => True) w5 Go.Dr.zeroW a5 0 c5) := hW50.imp (fun _ _ _ => trivial)
    clear hst hW50 hac
    have al : Below w5.heap.size w5 ((w5.alloc (.cells (wtC 0 none 0 0).toArray 32)).alloc (.cells (spC Go.Dr.zeroS).toArray 42)) := ((Below.refl _ w5).alloc (Nat.le_refl _) _).alloc (by simp) _
    have ba := (Blk.new w5 32 (wtC 0 none 0 0)).alloc (.cells (spC Go.Dr.zeroS).toArray 42)
    have bb := Blk.new (w5.alloc (.cells (wtC 0 none 0 0).toArray 32)) 42 (spC Go.Dr.zeroS)
    rw [World.size_alloc] at bb
    obtain ⟨v5a, hPa⟩ : ∃ Vq, Hid (PutR 32 ((w5.alloc (.cells (wtC 0 none 0 0).toArray 32)).alloc (.cells (spC Go.Dr.zeroS).toArray 42)) Vq w5.heap.size 32 (wtC Go.Dr.zeroW.pub a5 0 c5)) := put_row ba rfl sizeWt (wt_one _ _ _ _)
    obtain ⟨v5, hPb⟩ : ∃ Vq, Hid (PutR 42 v5a Vq (w5.heap.size + 1) 42 zS) := put_row (bb.grown hPa.out.grown (by intro e; injection e; omega)) hzl.out hzo.out hz1.out
    have hst := below_grown (below_grown al hPa.out.grown al.size (Nat.le_refl _)) hPb.out.grown (Nat.le_trans al.size hPa.out.grown.size) (Nat.le_succ _)
    have hBx := Lib.hid (hPa.out.blk.grown hPb.out.grown (by intro e; injection e; omega))
    have hBy := Lib.hid hPb.out.blk
    replace hBv := Lib.hid (hBv.out.below hst hBv.out.lt)
    replace hBr := Lib.hid (hBr.out.below hst hBr.out.lt)
    replace hV := Lib.hid (hV.out.below hst)
    replace hW5 := Lib.hid (hW5.out.below hst)
    replace hbw := Lib.hid (hbw.out.trans (hst.mono hbw.out.size))
    clear hst al ba bb
    obtain ⟨sxb, hsxb⟩ : ∃ b, Hid (w5.heap.size = b) := ⟨_, rfl⟩
    rw [hsxb.out] at hBx
    go_upto_region 6 with (first
     | (refine wpList_store_mid (by rfl) 32 (.tmp 5) (.tmp 25) (by rfl) w5.heap.size 0 (wtC Go.Dr.zeroW.pub a5 0 c5).toArray (by rfl) (by rfl) hPa.out.there hPa.out.info (by simpa using hPa.out.one) ?_
        generalize hWq : World.setCells _ _ _ _ = Wa
        obtain rfl : v5a = Wa := by rw [← hWq]; exact hPa.out.eq
        clear hWq)
         | (refine wpList_store_mid (by rfl) 42 (.tmp 6) (.tmp 26) (by rfl) (w5.heap.size + 1) 0 (zS).toArray (by rfl) (by rfl) hPb.out.there hPb.out.info (by simpa using hPb.out.one) ?_
            generalize hWq : World.setCells _ _ _ _ = Wa
            obtain rfl : v5 = Wa := by rw [← hWq]; exact hPb.out.eq
            clear hWq))
    clear hPa hPb
    rw [hsxb.out]
    have x0 := hBx.out.at_ (i := 0) (x := .int .i64 Go.Dr.zeroW.pub) rfl
    have x1 := hBx.out.at_ (i := 1) (x := .slice a5 0 c5) rfl
    go_wp2_with fail
    clear x0 x1
    refine (same36_any (fun _ => True) (fun _ => True) Go.Dr.zeroW a5 0 c5 none 0 _ hW5.out ⟨i64_0, RS.nil0 _ _ _⟩).mono ?_
    rintro e w7 ⟨rfl, hst⟩
    replace hBv := Lib.hid (hBv.out.below hst hBv.out.lt)
    replace hBr := Lib.hid (hBr.out.below hst hBr.out.lt)
    replace hV := Lib.hid (hV.out.below hst)
    replace hW5 := Lib.hid (hW5.out.below hst)
    replace hBx := Lib.hid (hBx.out.below hst hBx.out.lt)
    replace hBy := Lib.hid (hBy.out.below hst hBy.out.lt)
    replace hbw := Lib.hid (hbw.out.trans (hst.mono hbw.out.size))
    clear hst
    have hend := Lib.hid (hfin.out _ hbw.out)
    clear hfin
    go_wp2_with fail
    exact hend.out
  · skip
    have hks : Hid (OkS (Go.Dr.confl V.rs r).1) := confl_ok' hV.out.qs.oks hr'.out
    have hfl : Hid ((spC (Go.Dr.confl V.rs r).1).length = (spC Go.Dr.zeroS).length) := by show _ = _; rw [spC_length hks.out, spC_length okZS]
    have hfi : Hid ((Tryz.prog.info? 42).map (·.size) = some (spC (Go.Dr.confl V.rs r).1).length) := sizeSp' hks.out
    have hf1 := Lib.hid (spC_one (Go.Dr.confl V.rs r).1)
    have hac := Lib.hid (fun (W : World) hT hM => accept_at (K := fun _ => True) hy (m := n) hlv.out hr'.out hre.out (a := a) (n := n) (c := c) (w := W) hT hM)
    obtain ⟨sF, hsF⟩ : ∃ z, Hid (spC (Go.Dr.confl V.rs r).1 = z) := ⟨_, rfl⟩
    rw [hsF.out] at hac hfl hfi hf1
    refine (hac.out _ (HT'.out.below hbw.out) hV.out).mono ?_
    rintro e w5 ⟨a5, c5, rfl, hW50, hst⟩
    replace hBv := Lib.hid (hBv.out.below hst hBv.out.lt)
    replace hBr := Lib.hid (hBr.out.below hst hBr.out.lt)
    replace hV := Lib.hid (hV.out.below hst)
    replace hbw := Lib.hid (hbw.out.trans (hst.mono hbw.out.size))
    have hW5 : Hid (WM (fun _ => True) w5 V a5 n c5) := hW50.imp (fun _ _ _ => trivial)
    clear hst hW50 hac
    have al : Below w5.heap.size w5 ((w5.alloc (.cells (wtC 0 none 0 0).toArray 32)).alloc (.cells (spC Go.Dr.zeroS).toArray 42)) := ((Below.refl _ w5).alloc (Nat.le_refl _) _).alloc (by simp) _
    have ba := (Blk.new w5 32 (wtC 0 none 0 0)).alloc (.cells (spC Go.Dr.zeroS).toArray 42)
    have bb := Blk.new (w5.alloc (.cells (wtC 0 none 0 0).toArray 32)) 42 (spC Go.Dr.zeroS)
    rw [World.size_alloc] at bb
    obtain ⟨v5a, hPa⟩ : ∃ Vq, Hid (PutR 32 ((w5.alloc (.cells (wtC 0 none 0 0).toArray 32)).alloc (.cells (spC Go.Dr.zeroS).toArray 42)) Vq w5.heap.size 32 (wtC V.pub a5 n c5)) := put_row ba rfl sizeWt (wt_one _ _ _ _)
    obtain ⟨v5, hPb⟩ : ∃ Vq, Hid (PutR 42 v5a Vq (w5.heap.size + 1) 42 sF) := put_row (bb.grown hPa.out.grown (by intro e; injection e; omega)) hfl.out hfi.out hf1.out
    have hst := below_grown (below_grown al hPa.out.grown al.size (Nat.le_refl _)) hPb.out.grown (Nat.le_trans al.size hPa.out.grown.size) (Nat.le_succ _)
    have hBx := Lib.hid (hPa.out.blk.grown hPb.out.grown (by intro e; injection e; omega))
    have hBy := Lib.hid hPb.out.blk
    replace hBv := Lib.hid (hBv.out.below hst hBv.out.lt)
    replace hBr := Lib.hid (hBr.out.below hst hBr.out.lt)
    replace hV := Lib.hid (hV.out.below hst)
    replace hW5 := Lib.hid (hW5.out.below hst)
    replace hbw := Lib.hid (hbw.out.trans (hst.mono hbw.out.size))
    clear hst al ba bb
    obtain ⟨sxb, hsxb⟩ : ∃ b, Hid (w5.heap.size = b) := ⟨_, rfl⟩
    rw [hsxb.out] at hBx
    go_upto_region 6 with (first
     | (refine wpList_store_mid (by rfl) 32 (.tmp 5) (.tmp 25) (by rfl) w5.heap.size 0 (wtC V.pub a5 n c5).toArray (by rfl) (by rfl) hPa.out.there hPa.out.info (by simpa using hPa.out.one) ?_
        generalize hWq : World.setCells _ _ _ _ = Wa
        obtain rfl : v5a = Wa := by rw [← hWq]; exact hPa.out.eq
        clear hWq)
         | (refine wpList_store_mid (by rfl) 42 (.tmp 6) (.tmp 26) (by rfl) (w5.heap.size + 1) 0 (sF).toArray (by rfl) (by rfl) hPb.out.there hPb.out.info (by simpa using hPb.out.one) ?_
            generalize hWq : World.setCells _ _ _ _ = Wa
            obtain rfl : v5 = Wa := by rw [← hWq]; exact hPb.out.eq
            clear hWq))
    clear hPa hPb
    rw [hsxb.out]
    have hend := Lib.hid (hfin.out _ hbw.out)
    clear hfin
    go_wp2_with fail
    exact hend.out
  · skip
    obtain ⟨_, hy3, hmr, hms, hml, _, _⟩ := Go.Dr.acc_ok (b := 4) (w := V) (r := r) (by rw [hy2])
    obtain ⟨hwok, _⟩ := Go.Dr.acc_ok (b := 4) (w := V) (r := r) (by rw [hy2])
    obtain ⟨V2, hy⟩ : ∃ V2, Go.Dr.accW 4 V r = (V2, Go.Dr.zeroS, 0) := ⟨(Go.Dr.accW 4 V r).1, by rw [← hy2]⟩
    rw [hy] at hy3 hmr hms hml hwok
    simp only at hy3 hmr hms hml hwok
    obtain ⟨m2, hm2⟩ : ∃ m, V2.rs.length = m := ⟨_, rfl⟩
    have hy3' := Lib.hid hy3; have hmr' := Lib.hid hmr; have hms' := Lib.hid hms; have hwok' := Lib.hid hwok
    have hmn : Hid (m2 ≤ n + 1) := by have := hlv.out; show _ ≤ _; omega
    have hm2' := Lib.hid hm2
    clear hy3 hmr hms hml hwok hy2 hm2
    have hac := Lib.hid (fun (W : World) hT hM => accept_at (K := fun _ => True) hy (m := m2) hm2'.out hr'.out hre.out (a := a) (n := n) (c := c) (w := W) hT hM)
    rw [hzS.out] at hac
    refine (hac.out _ (HT'.out.below hbw.out) hV.out).mono ?_
    rintro e w5 ⟨a5, c5, rfl, hW50, hst⟩
    replace hBv := Lib.hid (hBv.out.below hst hBv.out.lt)
    replace hBr := Lib.hid (hBr.out.below hst hBr.out.lt)
    replace hV := Lib.hid (hV.out.below hst)
    replace hbw := Lib.hid (hbw.out.trans (hst.mono hbw.out.size))
    have hW5 : Hid (WM (fun _ => True) w5 V2 a5 m2 c5) := hW50.imp (fun _ _ _ => trivial)
    clear hst hW50 hac
    have al : Below w5.heap.size w5 ((w5.alloc (.cells (wtC 0 none 0 0).toArray 32)).alloc (.cells (spC Go.Dr.zeroS).toArray 42)) := ((Below.refl _ w5).alloc (Nat.le_refl _) _).alloc (by simp) _
    have ba := (Blk.new w5 32 (wtC 0 none 0 0)).alloc (.cells (spC Go.Dr.zeroS).toArray 42)
    have bb := Blk.new (w5.alloc (.cells (wtC 0 none 0 0).toArray 32)) 42 (spC Go.Dr.zeroS)
    rw [World.size_alloc] at bb
    obtain ⟨v5a, hPa⟩ : ∃ Vq, Hid (PutR 32 ((w5.alloc (.cells (wtC 0 none 0 0).toArray 32)).alloc (.cells (spC Go.Dr.zeroS).toArray 42)) Vq w5.heap.size 32 (wtC V2.pub a5 m2 c5)) := put_row ba rfl sizeWt (wt_one _ _ _ _)
    obtain ⟨v5, hPb⟩ : ∃ Vq, Hid (PutR 42 v5a Vq (w5.heap.size + 1) 42 zS) := put_row (bb.grown hPa.out.grown (by intro e; injection e; omega)) hzl.out hzo.out hz1.out
    have hst := below_grown (below_grown al hPa.out.grown al.size (Nat.le_refl _)) hPb.out.grown (Nat.le_trans al.size hPa.out.grown.size) (Nat.le_succ _)
    have hBx := Lib.hid (hPa.out.blk.grown hPb.out.grown (by intro e; injection e; omega))
    have hBy := Lib.hid hPb.out.blk
    replace hBv := Lib.hid (hBv.out.below hst hBv.out.lt)
    replace hBr := Lib.hid (hBr.out.below hst hBr.out.lt)
    replace hV := Lib.hid (hV.out.below hst)
    replace hW5 := Lib.hid (hW5.out.below hst)
    replace hbw := Lib.hid (hbw.out.trans (hst.mono hbw.out.size))
    clear hst al ba bb
    obtain ⟨sxb, hsxb⟩ : ∃ b, Hid (w5.heap.size = b) := ⟨_, rfl⟩
    rw [hsxb.out] at hBx
    go_upto_region 6 with (first
     | (refine wpList_store_mid (by rfl) 32 (.tmp 5) (.tmp 25) (by rfl) w5.heap.size 0 (wtC V2.pub a5 m2 c5).toArray (by rfl) (by rfl) hPa.out.there hPa.out.info (by simpa using hPa.out.one) ?_
        generalize hWq : World.setCells _ _ _ _ = Wa
        obtain rfl : v5a = Wa := by rw [← hWq]; exact hPa.out.eq
        clear hWq)
         | (refine wpList_store_mid (by rfl) 42 (.tmp 6) (.tmp 26) (by rfl) (w5.heap.size + 1) 0 (zS).toArray (by rfl) (by rfl) hPb.out.there hPb.out.info (by simpa using hPb.out.one) ?_
            generalize hWq : World.setCells _ _ _ _ = Wa
            obtain rfl : v5 = Wa := by rw [← hWq]; exact hPb.out.eq
            clear hWq))
    clear hPa hPb
    rw [hsxb.out]
    have x0 := hBx.out.at_ (i := 0) (x := .int .i64 V2.pub) rfl
    have x1 := hBx.out.at_ (i := 1) (x := .slice a5 m2 c5) rfl
    have hrg := Lib.hid hBr.out.range
    go_wp2_with (first
     | (refine wpList_load_mid (by rfl) 40 (.tmp 3) (by rfl) b1 0 (by rfl) rr _ hrg.out Tryz.underlying40 (by rfl) hri.out ?_))
    clear x0 x1 hrg
    have hac := Lib.hid (fun (W : World) hT hM => accept_at (K := fun _ => True) hy3'.out (m := m2) hm2'.out hr'.out hre.out (a := a5) (n := m2) (c := c5) (w := W) hT hM)
    rw [hzS.out] at hac
    refine (hac.out _ (HT'.out.below hbw.out) hW5.out).mono ?_
    rintro e w8 ⟨a8, c8, rfl, hW80, hst⟩
    replace hBv := Lib.hid (hBv.out.below hst hBv.out.lt)
    replace hBr := Lib.hid (hBr.out.below hst hBr.out.lt)
    replace hV := Lib.hid (hV.out.below hst)
    replace hW5 := Lib.hid (hW5.out.below hst)
    replace hBx := Lib.hid (hBx.out.below hst hBx.out.lt)
    replace hBy := Lib.hid (hBy.out.below hst hBy.out.lt)
    replace hbw := Lib.hid (hbw.out.trans (hst.mono hbw.out.size))
    have hW8 : Hid (WM (fun _ => True) w8 V2 a8 m2 c8) := hW80.imp (fun _ _ _ => trivial)
    clear hst hW80 hac
    have al : Below w8.heap.size w8 ((w8.alloc (.cells (wtC 0 none 0 0).toArray 32)).alloc (.cells (spC Go.Dr.zeroS).toArray 42)) := ((Below.refl _ w8).alloc (Nat.le_refl _) _).alloc (by simp) _
    have ba := (Blk.new w8 32 (wtC 0 none 0 0)).alloc (.cells (spC Go.Dr.zeroS).toArray 42)
    have bb := Blk.new (w8.alloc (.cells (wtC 0 none 0 0).toArray 32)) 42 (spC Go.Dr.zeroS)
    rw [World.size_alloc] at bb
    obtain ⟨v8a, hPa⟩ : ∃ Vq, Hid (PutR 32 ((w8.alloc (.cells (wtC 0 none 0 0).toArray 32)).alloc (.cells (spC Go.Dr.zeroS).toArray 42)) Vq w8.heap.size 32 (wtC V2.pub a8 m2 c8)) := put_row ba rfl sizeWt (wt_one _ _ _ _)
    obtain ⟨v8, hPb⟩ : ∃ Vq, Hid (PutR 42 v8a Vq (w8.heap.size + 1) 42 zS) := put_row (bb.grown hPa.out.grown (by intro e; injection e; omega)) hzl.out hzo.out hz1.out
    have hst := below_grown (below_grown al hPa.out.grown al.size (Nat.le_refl _)) hPb.out.grown (Nat.le_trans al.size hPa.out.grown.size) (Nat.le_succ _)
    have hBx8 := Lib.hid (hPa.out.blk.grown hPb.out.grown (by intro e; injection e; omega))
    have hBy8 := Lib.hid hPb.out.blk
    replace hBv := Lib.hid (hBv.out.below hst hBv.out.lt)
    replace hBr := Lib.hid (hBr.out.below hst hBr.out.lt)
    replace hV := Lib.hid (hV.out.below hst)
    replace hW5 := Lib.hid (hW5.out.below hst)
    replace hBx := Lib.hid (hBx.out.below hst hBx.out.lt)
    replace hBy := Lib.hid (hBy.out.below hst hBy.out.lt)
    replace hW8 := Lib.hid (hW8.out.below hst)
    replace hbw := Lib.hid (hbw.out.trans (hst.mono hbw.out.size))
    clear hst al ba bb
    obtain ⟨sx8, hsx8⟩ : ∃ b, Hid (w8.heap.size = b) := ⟨_, rfl⟩
    rw [hsx8.out] at hBx8
    go_upto_region 9 with (first
     | (refine wpList_store_mid (by rfl) 32 (.tmp 8) (.tmp 45) (by rfl) w8.heap.size 0 (wtC V2.pub a8 m2 c8).toArray (by rfl) (by rfl) hPa.out.there hPa.out.info (by simpa using hPa.out.one) ?_
        generalize hWq : World.setCells _ _ _ _ = Wa
        obtain rfl : v8a = Wa := by rw [← hWq]; exact hPa.out.eq
        clear hWq)
         | (refine wpList_store_mid (by rfl) 42 (.tmp 9) (.tmp 46) (by rfl) (w8.heap.size + 1) 0 (zS).toArray (by rfl) (by rfl) hPb.out.there hPb.out.info (by simpa using hPb.out.one) ?_
            generalize hWq : World.setCells _ _ _ _ = Wa
            obtain rfl : v8 = Wa := by rw [← hWq]; exact hPb.out.eq
            clear hWq))
    clear hPa hPb
    rw [hsx8.out]
    have x0 := hBx.out.at_ (i := 0) (x := .int .i64 V2.pub) rfl
    have x1 := hBx.out.at_ (i := 1) (x := .slice a5 m2 c5) rfl
    go_wp2_with fail
    clear x0 x1
    have hck := gchk_any (fun _ => True) V2 a5 m2 c5 v8 (HT'.out.below hbw.out) hW5.out
    have hck0 : chkW 4 V2 = 0 := by unfold chkW; rw [if_pos (Go.Dr.wchk_iff.2 hwok'.out)]
    rw [hck0] at hck
    refine (hck).mono ?_
    rintro e w9 ⟨rfl, hst⟩
    replace hBv := Lib.hid (hBv.out.below hst hBv.out.lt)
    replace hBr := Lib.hid (hBr.out.below hst hBr.out.lt)
    replace hV := Lib.hid (hV.out.below hst)
    replace hW5 := Lib.hid (hW5.out.below hst)
    replace hBx := Lib.hid (hBx.out.below hst hBx.out.lt)
    replace hBy := Lib.hid (hBy.out.below hst hBy.out.lt)
    replace hW8 := Lib.hid (hW8.out.below hst)
    replace hBx8 := Lib.hid (hBx8.out.below hst hBx8.out.lt)
    replace hBy8 := Lib.hid (hBy8.out.below hst hBy8.out.lt)
    replace hbw := Lib.hid (hbw.out.trans (hst.mono hbw.out.size))
    clear hst hck hck0
    have x0 := hBx.out.at_ (i := 0) (x := .int .i64 V2.pub) rfl
    have x1 := hBx.out.at_ (i := 1) (x := .slice a5 m2 c5) rfl
    have z0 := hBx8.out.at_ (i := 0) (x := .int .i64 V2.pub) rfl
    have z1 := hBx8.out.at_ (i := 1) (x := .slice a8 m2 c8) rfl
    go_wp2_with fail
    clear x0 x1 z0 z1
    refine (same36_any (fun _ => True) (fun _ => True) V2 a5 m2 c5 a8 c8 _ hW5.out hW8.out).mono ?_
    rintro e w10 ⟨rfl, hst⟩
    replace hBv := Lib.hid (hBv.out.below hst hBv.out.lt)
    replace hBr := Lib.hid (hBr.out.below hst hBr.out.lt)
    replace hV := Lib.hid (hV.out.below hst)
    replace hW5 := Lib.hid (hW5.out.below hst)
    replace hBx := Lib.hid (hBx.out.below hst hBx.out.lt)
    replace hBy := Lib.hid (hBy.out.below hst hBy.out.lt)
    replace hW8 := Lib.hid (hW8.out.below hst)
    replace hBx8 := Lib.hid (hBx8.out.below hst hBx8.out.lt)
    replace hBy8 := Lib.hid (hBy8.out.below hst hBy8.out.lt)
    replace hbw := Lib.hid (hbw.out.trans (hst.mono hbw.out.size))
    clear hst
    go_wp2_with fail
    have m63 : (m2 : Int) ≤ 9223372036854775807 := by have := hmn.out; have := hn63.out; have := hW5.out.n63; omega
    have hm0 : 0 < m2 := by have := hm2'.out; have := List.length_pos_of_mem hmr'.out; omega
    obtain ⟨x0, hx0⟩ : ∃ x, V2.rs[0]? = some x := ⟨_, List.getElem?_eq_getElem (by have := hm2'.out; omega)⟩
    obtain ⟨bx, ox, ea5, _⟩ := hW5.out.qs.cells hx0
    subst ea5
    clear hx0
    go_loopw [11, 12] (fun bv iv wr => ∃ (k : Nat) (b : Bool), k ≤ m2 ∧ bv = .bool b ∧ iv = .int .i64 (k : Int) ∧ Hid (b = true ∨ ∀ (j : Nat), j < k → V2.rs[j]? ≠ some r) ∧ Hid (Below w10.heap.size w10 wr)) (fun _ iv _ => m2 - (intOf iv).toNat)
    case atStart => exact ⟨0, false, Nat.zero_le _, rfl, rfl, .inr (fun j hj => absurd hj (by omega)), Below.refl _ _⟩
    case round =>
     obtain ⟨k, b, hk, rfl, rfl, hmet, hbr⟩ := hrel
     have hBxr := (hBx.out.below hbr.out hBx.out.lt)
     have q1 := hBxr.at_ (i := 1) (x := .slice (some ⟨bx, ox, none⟩) m2 c5) rfl
     by_cases hlt : k < m2
     · obtain ⟨x, hx⟩ : ∃ x, V2.rs[k]? = some x := ⟨_, List.getElem?_eq_getElem (by have := hm2'.out; omega)⟩
       have hox := Lib.hid (hW5.out.qs.okAt hx)
       have hst9 := Lib.hid (met_step hmet.out hx)
       have hrx : Hid (∀ wz, Below wr.heap.size wr wz → wz.rangeAt bx (ox + k * 67) (rC x)) := fun wz h => ((hW5.out.below hbr.out).below h).qs.at_ hx
       have hrb : Hid (∀ wz, Below wr.heap.size wr wz → wz.rangeAt b1 0 rr) := fun wz h => ((hBr.out.below hbr.out hBr.out.lt).below h (hBr.out.below hbr.out hBr.out.lt).lt).range
       have hxi : Hid ((Tryz.prog.info? 40).map (·.size) = some (rC x).length) := by show _ = _; rw [rC_length hox.out]; exact sizeR
       have heq := fun W => eq_root hox.out hr'.out W
       obtain ⟨Q, hQ⟩ : ∃ Q, Hid (Go.Dr.eqR x r = Q) := ⟨_, rfl⟩
       obtain ⟨rx, hrxe⟩ : ∃ z, Hid (rC x = z) := ⟨_, rfl⟩
       rw [hQ.out, hrxe.out, hre.out] at heq
       rw [hrxe.out] at hrx hxi
       rw [hQ.out] at hst9
       have k0 : (0 : Int) ≤ (k : Int) := by omega
       have k1 : (k : Int) < (m2 : Int) := by omega
       clear hx hQ
       have hBx1 := Lib.hid hBxr
       clear hBxr
       cases b with
       | true =>
        go_upto_region 15 with fail
        refine wp_region_held_drew (S := fun wz => Below wr.heap.size wr wz) (by kernel_rfl) ((Below.refl _ wr).drew) (fun hHeld => ?_)
        generalize hWd : wr.drew = Wd at *
        clear hWd
        refine tkq (i := 0) (oi := ⟨some 68, .move (.tmp 11), 4, "law.go:217", #[], none⟩) rfl hHeld ?_
        refine tkq (i := 1) (oi := ⟨some 69, .move (.tmp 68), 4, "law.go:217", #[⟨0, .data⟩], none⟩) rfl hHeld ?_
        refine tk (i := 2) (oi := ⟨some 70, .fieldAddr 32 (.tmp 5) 1, 0, "law.go:217", #[⟨1, .guard⟩], some (1, false)⟩) (v := undef) rfl (Or.inr ⟨by rfl, rfl⟩) hHeld ?_
        refine tk (i := 3) (oi := ⟨some 71, .load 25 (.tmp 70), 25, "law.go:217", #[⟨2, .data⟩, ⟨1, .guard⟩], some (1, false)⟩) (v := undef) rfl (Or.inr ⟨by rfl, rfl⟩) hHeld ?_
        refine tk (i := 4) (oi := ⟨some 72, .move (.tmp 12), 3, "law.go:217", #[⟨1, .guard⟩], some (1, false)⟩) (v := undef) rfl (Or.inr ⟨by rfl, rfl⟩) hHeld ?_
        refine tk (i := 5) (oi := ⟨some 73, .indexAddr 25 (.tmp 71) (.tmp 72), 0, "law.go:217", #[⟨3, .data⟩, ⟨4, .data⟩, ⟨1, .guard⟩], some (1, false)⟩) (v := undef) rfl (Or.inr ⟨by rfl, rfl⟩) hHeld ?_
        refine tk (i := 6) (oi := ⟨some 74, .load 40 (.tmp 73), 40, "law.go:217", #[⟨5, .data⟩, ⟨1, .guard⟩], some (1, false)⟩) (v := undef) rfl (Or.inr ⟨by rfl, rfl⟩) hHeld ?_
        refine tk (i := 7) (oi := ⟨some 75, .load 40 (.tmp 3), 40, "law.go:217", #[⟨1, .guard⟩], some (1, false)⟩) (v := undef) rfl (Or.inr ⟨by rfl, rfl⟩) hHeld ?_
        refine tk (i := 8) (oi := ⟨some 76, .binOp .eql 40 (.tmp 74) (.tmp 75) 40, 4, "law.go:217", #[⟨6, .data⟩, ⟨7, .data⟩, ⟨1, .guard⟩], some (1, false)⟩) (v := undef) rfl (Or.inr ⟨by rfl, rfl⟩) hHeld ?_
        refine tkq (i := 9) (oi := ⟨some 77, .pick (.tmp 69) (.const (.bool true)) (.tmp 76), 4, "law.go:217", #[⟨1, .data⟩, ⟨8, .data⟩], none⟩) rfl hHeld ?_
        refine tkq (i := 10) (oi := ⟨some 11, .assign (.tmp 77), 4, "law.go:217", #[⟨9, .data⟩, ⟨1, .chain⟩, ⟨0, .phase⟩, ⟨1, .phase⟩, ⟨2, .phase⟩, ⟨3, .phase⟩, ⟨4, .phase⟩, ⟨5, .phase⟩, ⟨6, .phase⟩, ⟨7, .phase⟩, ⟨8, .phase⟩, ⟨9, .phase⟩], none⟩) rfl hHeld ?_
        refine wpAnyH_done (by kernel_rfl) ?_ _
        have hb9 := Lib.hid (hbr.out.trans (hHeld.mono hbr.out.size))
        have hst8 : Hid (true = true ∨ ∀ (j : Nat), j < k + 1 → V2.rs[j]? ≠ some r) := .inl rfl
        clear hHeld heq q1
        go_wp2_with fail
        go_roundw
        case rel => exact ⟨k + 1, true, by omega, rfl, by go_num, hst8, hb9⟩
        case measure => simp [intOf]; omega
       | false =>
        go_upto_region 15 with fail
        refine wp_region_held_drew (S := fun wz => Below wr.heap.size wr wz) (by kernel_rfl) ((Below.refl _ wr).drew) (fun hHeld => ?_)
        generalize hWd : wr.drew = Wd at *
        clear hWd
        refine tkq (i := 0) (oi := ⟨some 68, .move (.tmp 11), 4, "law.go:217", #[], none⟩) rfl hHeld ?_
        refine tkq (i := 1) (oi := ⟨some 69, .move (.tmp 68), 4, "law.go:217", #[⟨0, .data⟩], none⟩) rfl hHeld ?_
        refine tkq (i := 2) (oi := ⟨some 70, .fieldAddr 32 (.tmp 5) 1, 0, "law.go:217", #[⟨1, .guard⟩], some (1, false)⟩) rfl hHeld ?_
        refine tk (i := 3) (oi := ⟨some 71, .load 25 (.tmp 70), 25, "law.go:217", #[⟨2, .data⟩, ⟨1, .guard⟩], some (1, false)⟩) (v := ?_) rfl (Or.inl ⟨by rfl, ?_⟩) hHeld ?_
        rotate_left
        · intro wz hSw
          have q1' := (hBx1.out.below hSw hBx1.out.lt).at_ (i := 1) (x := .slice (some ⟨bx, ox, none⟩) m2 c5) rfl
          go_simp
          all_goals (with_reducible rfl)
        try simp only [Act.put, sA, s0, s1]
        refine tkq (i := 4) (oi := ⟨some 72, .move (.tmp 12), 3, "law.go:217", #[⟨1, .guard⟩], some (1, false)⟩) rfl hHeld ?_
        refine tk (i := 5) (oi := ⟨some 73, .indexAddr 25 (.tmp 71) (.tmp 72), 0, "law.go:217", #[⟨3, .data⟩, ⟨4, .data⟩, ⟨1, .guard⟩], some (1, false)⟩) (v := ?_) rfl (Or.inl ⟨by rfl, ?_⟩) hHeld ?_
        rotate_left
        · intro wz hSw
          have k0' := k0
          have k1' := k1
          go_simp
          all_goals (with_reducible rfl)
        try simp only [Act.put, sA, s0, s1]
        refine tk (i := 6) (oi := ⟨some 74, .load 40 (.tmp 73), 40, "law.go:217", #[⟨5, .data⟩, ⟨1, .guard⟩], some (1, false)⟩) rfl (yieldsIf_load_mid (by rfl) _ _ rfl bx (ox + k * 67) rfl (rx) _ (fun wz h => hrx.out wz h) Tryz.underlying40 rfl (hxi.out)) hHeld ?_
        refine tk (i := 7) (oi := ⟨some 75, .load 40 (.tmp 3), 40, "law.go:217", #[⟨1, .guard⟩], some (1, false)⟩) rfl (yieldsIf_load_mid (by rfl) _ _ rfl b1 0 rfl (rr) _ (fun wz h => hrb.out wz h) Tryz.underlying40 rfl (hri.out)) hHeld ?_
        refine tk (i := 8) (oi := ⟨some 76, .binOp .eql 40 (.tmp 74) (.tmp 75) 40, 4, "law.go:217", #[⟨6, .data⟩, ⟨7, .data⟩, ⟨1, .guard⟩], some (1, false)⟩) (v := ?_) rfl (Or.inl ⟨by rfl, ?_⟩) hHeld ?_
        rotate_left
        · intro wz hSw
          have hq' := heq
          go_simp
          all_goals (with_reducible rfl)
        try simp only [Act.put, sA, s0, s1]
        refine tkq (i := 9) (oi := ⟨some 77, .pick (.tmp 69) (.const (.bool true)) (.tmp 76), 4, "law.go:217", #[⟨1, .data⟩, ⟨8, .data⟩], none⟩) rfl hHeld ?_
        refine tkq (i := 10) (oi := ⟨some 11, .assign (.tmp 77), 4, "law.go:217", #[⟨9, .data⟩, ⟨1, .chain⟩, ⟨0, .phase⟩, ⟨1, .phase⟩, ⟨2, .phase⟩, ⟨3, .phase⟩, ⟨4, .phase⟩, ⟨5, .phase⟩, ⟨6, .phase⟩, ⟨7, .phase⟩, ⟨8, .phase⟩, ⟨9, .phase⟩], none⟩) rfl hHeld ?_
        refine wpAnyH_done (by kernel_rfl) ?_ _
        have hb9 := Lib.hid (hbr.out.trans (hHeld.mono hbr.out.size))
        have hst8 : Hid (Q = true ∨ ∀ (j : Nat), j < k + 1 → V2.rs[j]? ≠ some r) := by have := hst9.out; rwa [Bool.false_or] at this
        clear hHeld heq q1
        go_wp2_with fail
        go_roundw
        case rel => exact ⟨k + 1, Q, by omega, rfl, by go_num, hst8, hb9⟩
        case measure => simp [intOf]; omega
     · obtain rfl : b = true := met_end hmet.out (by have := hm2'.out; omega) hmr'.out
       clear hmet
       go_wp2_with fail
       generalize wr = wO at *
       clear q1 hlt hk hBxr
       have n63 := hn63.out
       go_loopw [13] (fun iv wr => ∃ (k : Nat), k ≤ n ∧ iv = .int .i64 (k : Int) ∧ Hid (Below w10.heap.size w10 wr)) (fun iv _ => n - (intOf iv).toNat)
       case atStart => exact ⟨0, Nat.zero_le _, rfl, hbr⟩
       case round =>
        obtain ⟨k2, hk2, rfl, hbq⟩ := hrel
        have hBvr := (hBv.out.below hbq.out hBv.out.lt)
        have y1 := hBvr.at_ (i := 1) (x := .slice a n c) rfl
        by_cases hlt2 : k2 < n
        · obtain ⟨y, hyk⟩ : ∃ x, V.rs[k2]? = some x := ⟨_, List.getElem?_eq_getElem (by have := hlv.out; omega)⟩
          have hym := Lib.hid (hms'.out y (List.mem_of_getElem? hyk))
          obtain ⟨by1, oy, eay, _⟩ := hV.out.qs.cells hyk
          subst eay
          have hoy := Lib.hid (hV.out.qs.okAt hyk)
          have hry9 : Hid (∀ wz, Below w10.heap.size w10 wz → wz.rangeAt by1 (oy + k2 * 67) (rC y)) := fun wz h => (hV.out.below h).qs.at_ hyk
          have hyi : Hid ((Tryz.prog.info? 40).map (·.size) = some (rC y).length) := by show _ = _; rw [rC_length hoy.out]; exact sizeR
          obtain ⟨ry, hrye⟩ : ∃ z, Hid (rC y = z) := ⟨_, rfl⟩
          rw [hrye.out] at hry9 hyi
          have j0 : (0 : Int) ≤ (k2 : Int) := by omega
          have j1 : (k2 : Int) < (n : Int) := by omega
          clear hyk
          have hBv1 := Lib.hid hBvr
          clear hBvr
          go_wp2_with fail
          generalize wr = wP at *
          clear y1
          go_loopw [14, 15] (fun bv iv wr => ∃ (k : Nat) (b : Bool), k ≤ m2 ∧ bv = .bool b ∧ iv = .int .i64 (k : Int) ∧ Hid (b = true ∨ ∀ (j : Nat), j < k → V2.rs[j]? ≠ some y) ∧ Hid (Below w10.heap.size w10 wr)) (fun _ iv _ => m2 - (intOf iv).toNat)
          case atStart => exact ⟨0, false, Nat.zero_le _, rfl, rfl, .inr (fun j hj => absurd hj (by omega)), hbq⟩
          case round =>
           obtain ⟨k, b, hk, rfl, rfl, hmet, hbr9⟩ := hrel
           have hBxr := (hBx.out.below hbr9.out hBx.out.lt)
           have q1 := hBxr.at_ (i := 1) (x := .slice (some ⟨bx, ox, none⟩) m2 c5) rfl
           by_cases hlt : k < m2
           · obtain ⟨x, hx⟩ : ∃ x, V2.rs[k]? = some x := ⟨_, List.getElem?_eq_getElem (by have := hm2'.out; omega)⟩
             have hox := Lib.hid (hW5.out.qs.okAt hx)
             have hst9 := Lib.hid (met_step hmet.out hx)
             have hrx : Hid (∀ wz, Below wr.heap.size wr wz → wz.rangeAt bx (ox + k * 67) (rC x)) := fun wz h => ((hW5.out.below hbr9.out).below h).qs.at_ hx
             have hry : Hid (∀ wz, Below wr.heap.size wr wz → wz.rangeAt by1 (oy + k2 * 67) ry) := fun wz h => hry9.out wz (hbr9.out.trans (h.mono hbr9.out.size))
             have hxi : Hid ((Tryz.prog.info? 40).map (·.size) = some (rC x).length) := by show _ = _; rw [rC_length hox.out]; exact sizeR
             have heq := fun W => eq_root hox.out hoy.out W
             obtain ⟨Q, hQ⟩ : ∃ Q, Hid (Go.Dr.eqR x y = Q) := ⟨_, rfl⟩
             obtain ⟨rx, hrxe⟩ : ∃ z, Hid (rC x = z) := ⟨_, rfl⟩
             rw [hQ.out, hrxe.out, hrye.out] at heq
             rw [hrxe.out] at hrx hxi
             rw [hQ.out] at hst9
             have k0 : (0 : Int) ≤ (k : Int) := by omega
             have k1 : (k : Int) < (m2 : Int) := by omega
             clear hx hQ
             have hBx1 := Lib.hid hBxr
             have hBv1 := Lib.hid (hBv.out.below hbr9.out hBv.out.lt)
             clear hBxr
             cases b with
             | true =>
              go_upto_region 23 with fail
              refine wp_region_held_drew (S := fun wz => Below wr.heap.size wr wz) (by kernel_rfl) ((Below.refl _ wr).drew) (fun hHeld => ?_)
              generalize hWd : wr.drew = Wd at *
              clear hWd
              refine tkq (i := 0) (oi := ⟨some 92, .move (.tmp 14), 4, "law.go:222", #[], none⟩) rfl hHeld ?_
              refine tkq (i := 1) (oi := ⟨some 93, .move (.tmp 92), 4, "law.go:222", #[⟨0, .data⟩], none⟩) rfl hHeld ?_
              refine tk (i := 2) (oi := ⟨some 94, .fieldAddr 32 (.tmp 5) 1, 0, "law.go:222", #[⟨1, .guard⟩], some (1, false)⟩) (v := undef) rfl (Or.inr ⟨by rfl, rfl⟩) hHeld ?_
              refine tk (i := 3) (oi := ⟨some 95, .load 25 (.tmp 94), 25, "law.go:222", #[⟨2, .data⟩, ⟨1, .guard⟩], some (1, false)⟩) (v := undef) rfl (Or.inr ⟨by rfl, rfl⟩) hHeld ?_
              refine tk (i := 4) (oi := ⟨some 96, .move (.tmp 15), 3, "law.go:222", #[⟨1, .guard⟩], some (1, false)⟩) (v := undef) rfl (Or.inr ⟨by rfl, rfl⟩) hHeld ?_
              refine tk (i := 5) (oi := ⟨some 97, .indexAddr 25 (.tmp 95) (.tmp 96), 0, "law.go:222", #[⟨3, .data⟩, ⟨4, .data⟩, ⟨1, .guard⟩], some (1, false)⟩) (v := undef) rfl (Or.inr ⟨by rfl, rfl⟩) hHeld ?_
              refine tk (i := 6) (oi := ⟨some 98, .load 40 (.tmp 97), 40, "law.go:222", #[⟨5, .data⟩, ⟨1, .guard⟩], some (1, false)⟩) (v := undef) rfl (Or.inr ⟨by rfl, rfl⟩) hHeld ?_
              refine tk (i := 7) (oi := ⟨some 99, .fieldAddr 32 (.tmp 2) 1, 0, "law.go:222", #[⟨1, .guard⟩], some (1, false)⟩) (v := undef) rfl (Or.inr ⟨by rfl, rfl⟩) hHeld ?_
              refine tk (i := 8) (oi := ⟨some 100, .load 25 (.tmp 99), 25, "law.go:222", #[⟨7, .data⟩, ⟨1, .guard⟩], some (1, false)⟩) (v := undef) rfl (Or.inr ⟨by rfl, rfl⟩) hHeld ?_
              refine tk (i := 9) (oi := ⟨some 101, .move (.tmp 13), 3, "law.go:222", #[⟨1, .guard⟩], some (1, false)⟩) (v := undef) rfl (Or.inr ⟨by rfl, rfl⟩) hHeld ?_
              refine tk (i := 10) (oi := ⟨some 102, .indexAddr 25 (.tmp 100) (.tmp 101), 0, "law.go:222", #[⟨8, .data⟩, ⟨9, .data⟩, ⟨1, .guard⟩], some (1, false)⟩) (v := undef) rfl (Or.inr ⟨by rfl, rfl⟩) hHeld ?_
              refine tk (i := 11) (oi := ⟨some 103, .load 40 (.tmp 102), 40, "law.go:222", #[⟨10, .data⟩, ⟨1, .guard⟩], some (1, false)⟩) (v := undef) rfl (Or.inr ⟨by rfl, rfl⟩) hHeld ?_
              refine tk (i := 12) (oi := ⟨some 104, .binOp .eql 40 (.tmp 98) (.tmp 103) 40, 4, "law.go:222", #[⟨6, .data⟩, ⟨11, .data⟩, ⟨1, .guard⟩], some (1, false)⟩) (v := undef) rfl (Or.inr ⟨by rfl, rfl⟩) hHeld ?_
              refine tkq (i := 13) (oi := ⟨some 105, .pick (.tmp 93) (.const (.bool true)) (.tmp 104), 4, "law.go:222", #[⟨1, .data⟩, ⟨12, .data⟩], none⟩) rfl hHeld ?_
              refine tkq (i := 14) (oi := ⟨some 14, .assign (.tmp 105), 4, "law.go:222", #[⟨13, .data⟩, ⟨1, .chain⟩, ⟨0, .phase⟩, ⟨1, .phase⟩, ⟨2, .phase⟩, ⟨3, .phase⟩, ⟨4, .phase⟩, ⟨5, .phase⟩, ⟨6, .phase⟩, ⟨7, .phase⟩, ⟨8, .phase⟩, ⟨9, .phase⟩, ⟨10, .phase⟩, ⟨11, .phase⟩, ⟨12, .phase⟩, ⟨13, .phase⟩], none⟩) rfl hHeld ?_
              refine wpAnyH_done (by kernel_rfl) ?_ _
              have hb9 := Lib.hid (hbr9.out.trans (hHeld.mono hbr9.out.size))
              have hst8 : Hid (true = true ∨ ∀ (j : Nat), j < k + 1 → V2.rs[j]? ≠ some y) := .inl rfl
              clear hHeld heq q1
              go_wp2_with fail
              go_roundw
              case rel => exact ⟨k + 1, true, by omega, rfl, by go_num, hst8, hb9⟩
              case measure => simp [intOf]; omega
             | false =>
              go_upto_region 23 with fail
              refine wp_region_held_drew (S := fun wz => Below wr.heap.size wr wz) (by kernel_rfl) ((Below.refl _ wr).drew) (fun hHeld => ?_)
              generalize hWd : wr.drew = Wd at *
              clear hWd
              refine tkq (i := 0) (oi := ⟨some 92, .move (.tmp 14), 4, "law.go:222", #[], none⟩) rfl hHeld ?_
              refine tkq (i := 1) (oi := ⟨some 93, .move (.tmp 92), 4, "law.go:222", #[⟨0, .data⟩], none⟩) rfl hHeld ?_
              refine tkq (i := 2) (oi := ⟨some 94, .fieldAddr 32 (.tmp 5) 1, 0, "law.go:222", #[⟨1, .guard⟩], some (1, false)⟩) rfl hHeld ?_
              refine tk (i := 3) (oi := ⟨some 95, .load 25 (.tmp 94), 25, "law.go:222", #[⟨2, .data⟩, ⟨1, .guard⟩], some (1, false)⟩) (v := ?_) rfl (Or.inl ⟨by rfl, ?_⟩) hHeld ?_
              rotate_left
              · intro wz hSw
                have q1' := (hBx1.out.below hSw hBx1.out.lt).at_ (i := 1) (x := .slice (some ⟨bx, ox, none⟩) m2 c5) rfl
                go_simp
                all_goals (with_reducible rfl)
              try simp only [Act.put, sA, s0, s1]
              refine tkq (i := 4) (oi := ⟨some 96, .move (.tmp 15), 3, "law.go:222", #[⟨1, .guard⟩], some (1, false)⟩) rfl hHeld ?_
              refine tk (i := 5) (oi := ⟨some 97, .indexAddr 25 (.tmp 95) (.tmp 96), 0, "law.go:222", #[⟨3, .data⟩, ⟨4, .data⟩, ⟨1, .guard⟩], some (1, false)⟩) (v := ?_) rfl (Or.inl ⟨by rfl, ?_⟩) hHeld ?_
              rotate_left
              · intro wz hSw
                have k0' := k0
                have k1' := k1
                go_simp
                all_goals (with_reducible rfl)
              try simp only [Act.put, sA, s0, s1]
              refine tk (i := 6) (oi := ⟨some 98, .load 40 (.tmp 97), 40, "law.go:222", #[⟨5, .data⟩, ⟨1, .guard⟩], some (1, false)⟩) rfl (yieldsIf_load_mid (by rfl) _ _ rfl bx (ox + k * 67) rfl (rx) _ (fun wz h => hrx.out wz h) Tryz.underlying40 rfl (hxi.out)) hHeld ?_
              refine tkq (i := 7) (oi := ⟨some 99, .fieldAddr 32 (.tmp 2) 1, 0, "law.go:222", #[⟨1, .guard⟩], some (1, false)⟩) rfl hHeld ?_
              refine tk (i := 8) (oi := ⟨some 100, .load 25 (.tmp 99), 25, "law.go:222", #[⟨7, .data⟩, ⟨1, .guard⟩], some (1, false)⟩) (v := ?_) rfl (Or.inl ⟨by rfl, ?_⟩) hHeld ?_
              rotate_left
              · intro wz hSw
                have y1' := (hBv1.out.below hSw hBv1.out.lt).at_ (i := 1) (x := .slice (some ⟨by1, oy, none⟩) n c) rfl
                go_simp
                all_goals (with_reducible rfl)
              try simp only [Act.put, sA, s0, s1]
              refine tkq (i := 9) (oi := ⟨some 101, .move (.tmp 13), 3, "law.go:222", #[⟨1, .guard⟩], some (1, false)⟩) rfl hHeld ?_
              refine tk (i := 10) (oi := ⟨some 102, .indexAddr 25 (.tmp 100) (.tmp 101), 0, "law.go:222", #[⟨8, .data⟩, ⟨9, .data⟩, ⟨1, .guard⟩], some (1, false)⟩) (v := ?_) rfl (Or.inl ⟨by rfl, ?_⟩) hHeld ?_
              rotate_left
              · intro wz hSw
                have j0' := j0
                have j1' := j1
                go_simp
                all_goals (with_reducible rfl)
              try simp only [Act.put, sA, s0, s1]
              refine tk (i := 11) (oi := ⟨some 103, .load 40 (.tmp 102), 40, "law.go:222", #[⟨10, .data⟩, ⟨1, .guard⟩], some (1, false)⟩) rfl (yieldsIf_load_mid (by rfl) _ _ rfl by1 (oy + k2 * 67) rfl (ry) _ (fun wz h => hry.out wz h) Tryz.underlying40 rfl (hyi.out)) hHeld ?_
              refine tk (i := 12) (oi := ⟨some 104, .binOp .eql 40 (.tmp 98) (.tmp 103) 40, 4, "law.go:222", #[⟨6, .data⟩, ⟨11, .data⟩, ⟨1, .guard⟩], some (1, false)⟩) (v := ?_) rfl (Or.inl ⟨by rfl, ?_⟩) hHeld ?_
              rotate_left
              · intro wz hSw
                have hq' := heq
                go_simp
                all_goals (with_reducible rfl)
              try simp only [Act.put, sA, s0, s1]
              refine tkq (i := 13) (oi := ⟨some 105, .pick (.tmp 93) (.const (.bool true)) (.tmp 104), 4, "law.go:222", #[⟨1, .data⟩, ⟨12, .data⟩], none⟩) rfl hHeld ?_
              refine tkq (i := 14) (oi := ⟨some 14, .assign (.tmp 105), 4, "law.go:222", #[⟨13, .data⟩, ⟨1, .chain⟩, ⟨0, .phase⟩, ⟨1, .phase⟩, ⟨2, .phase⟩, ⟨3, .phase⟩, ⟨4, .phase⟩, ⟨5, .phase⟩, ⟨6, .phase⟩, ⟨7, .phase⟩, ⟨8, .phase⟩, ⟨9, .phase⟩, ⟨10, .phase⟩, ⟨11, .phase⟩, ⟨12, .phase⟩, ⟨13, .phase⟩], none⟩) rfl hHeld ?_
              refine wpAnyH_done (by kernel_rfl) ?_ _
              have hb9 := Lib.hid (hbr9.out.trans (hHeld.mono hbr9.out.size))
              have hst8 : Hid (Q = true ∨ ∀ (j : Nat), j < k + 1 → V2.rs[j]? ≠ some y) := by have := hst9.out; rwa [Bool.false_or] at this
              clear hHeld heq q1
              go_wp2_with fail
              go_roundw
              case rel => exact ⟨k + 1, Q, by omega, rfl, by go_num, hst8, hb9⟩
              case measure => simp [intOf]; omega
           · obtain rfl : b = true := met_end hmet.out (by have := hm2'.out; omega) hym.out
             clear hmet hBxr
             go_wp2_with fail
             go_roundw
             case rel => exact ⟨k2 + 1, by omega, by go_num, hbr9⟩
             case measure => simp [intOf]; omega
        · obtain rfl : k2 = n := by omega
          have hend := Lib.hid (hfin.out _ (hbw.out.trans (hbq.out.mono hbw.out.size)))
          have q1 := (hBx.out.below hbq.out hBx.out.lt).at_ (i := 1) (x := .slice (some ⟨bx, ox, none⟩) m2 c5) rfl
          have hle : decide ((m2 : Int) ≤ (k2 : Int) + 1) = true := by have := hmn.out; simp; omega
          have hle2 : decide (m2 ≤ k2 + 1) = true := by have := hmn.out; simp; omega
          have hww : IntKind.i64.wrap ((k2 : Int) + 1) = (k2 : Int) + 1 := by have := hmn.out; have := hn63.out; rw [IntKind.wrap_i64]; have := hsml.out; omega
          clear hBvr hfin
          go_wp2_with fail
          exact hend.out
end Go.Proofs.YthnfjkgiaanmhaaGreatDoor
namespace Go.Proofs.YthnfjkgiaanmhaaGreatDoor.lawGRemember
open Go.ChangeShapes Go.WideShapes Go.ChangeAt Go.RowKit Go.Mem
open Go.Proofs.YthnfjkgiaanmhaaGreatDoor

set_option maxRecDepth 100000 in
theorem lifted (os : Os) (started : os.Started) (H : Type) (enc : TypeId × Value → H) :
 ReturnsInHanded {} Tryz.checked os 7 .any (fun w args => (Rows.gossipRememberSpec.pre enc Tryz.prog Tryz.f7 [] false w args ∧ laidMetH Tryz.prog laid2 w) ∧ sizedMet enc Tryz.prog Tryz.f7 (OpenSpec.ofChange Rows.gossipRememberSpec) false w args)
  (Rows.gossipRememberSpec.post enc Tryz.prog Tryz.f7 false true false false) := by
 refine returnsInHanded_of_change_and (C := Tryz.checked) (X := fun w _ => laidMetH Tryz.prog laid2 w) (fun _ _ _ hh h => h.of_heap hh) own started (by kernel_rfl) Tryz.func7
  (ChangeSpec.witness_shaped (enc := enc) (C := Tryz.checked) (os := os) (X := fun w _ => laidMetH Tryz.prog laid2 w) false (World.doorLaid Tryz.prog 400 os) #[.agg (wtC 0 none 0 0).toArray, .agg (rC Go.Dr.zeroR).toArray] 8 rfl (World.shaped_of_RefB (by kernel_rfl) (by kernel_rfl)) (by kernel_rfl) (by kernel_rfl) (by kernel_rfl) (door_met os _)) ?_
 intro W base args ds gs before hval0 hW _ hwt hL _
 have hval : ∀ (j : Nat) t v, Tryz.f7.params[j]? = some t → args[j]? = some v → Value.okWide Tryz.prog W .any base t v := hval0
 have hW' := hW
 obtain ⟨p, q, hA0, hV, rfl, hfz, hnd⟩ := hW
 have hA : DataW.TrodAll enc Tryz.prog W 0 (fun _ => true) true Tryz.f7.params.toList args.toList ds p := hA0
 rw [Tryz.params7] at hA hval
 obtain ⟨v0, vs0, d0, ds0, p0, q0, hargs, rfl, rfl, h0, r0⟩ := trodAll_cons hA
 obtain ⟨v1, vs1, d1, ds1, p1, q1, rfl, rfl, rfl, h1, r1⟩ := trodAll_cons r0
 obtain ⟨rfl, rfl, rfl⟩ := trodAll_nil r1
 obtain rfl : args = #[v0, v1] := by cases args; simp_all
 obtain ⟨rfl, rfl⟩ := trodVars_none hV
 have lt0 : ∀ x ∈ p0, x.block < W.heap.size := by obtain ⟨m, hm⟩ := h0; exact DataW.trod_lt m _ _ _ hm
 have lt1 : ∀ x ∈ p1, x.block < W.heap.size := by obtain ⟨m, hm⟩ := h1; exact DataW.trod_lt m _ _ _ hm
 have k0' := h0
 have k1' := h1
 obtain ⟨cs0, rfl, _⟩ := okWide_struct Tryz.underlying32 (hval 0 32 v0 rfl rfl)
 obtain ⟨m0, hm0⟩ := h0
 obtain ⟨y0, a0, n0, c0, e0, S0⟩ := open_watch (cs := cs0.toList) (by simpa [Value.cells] using hm0)
 obtain rfl : cs0 = (wtC y0.pub a0 n0 c0).toArray := by rw [← e0]
 clear hm0 e0
 obtain ⟨cs1, rfl, _⟩ := okWide_struct Tryz.underlying40 (hval 1 40 v1 rfl rfl)
 obtain ⟨m1, hm1⟩ := h1
 obtain ⟨y1, ok1, e1⟩ := open_rt (cs := cs1.toList) (by simpa [Value.cells] using hm1)
 obtain rfl : cs1 = (rC y1).toArray := by rw [← e1]
 clear hm1 e1
 have hT := tabs_of_laid hL
 clear hA0 hval0
 refine (gremember_walk y0 a0 n0 c0 y1 ok1 W hT S0).mono fun e W' ⟨he, bel⟩ => ?_
 subst he
 exact ⟨_, rfl, _, _, _, [], _, [], hW', trodAll_mk1 (shut_bool Tryz.underlying4 _),
  (trodAll_cons_mk (Below.trod laidOut (by kernel_rfl) (of_decide_eq_true (by kernel_rfl)) k0' bel lt0) (trodAll_cons_mk (Below.trod laidOut (by kernel_rfl) (of_decide_eq_true (by kernel_rfl)) k1' bel lt1) trodAll_mk0)), rfl, bel.frame _, fun h => by cases h⟩

theorem over : Rows.GossipRememberSaid :=
 OpenClaim.holds_of_wide 7 Tryz.f7 rfl rfl rfl rfl rfl rfl rfl ⟨rfl, rfl, rfl, rfl, rfl⟩ rfl rfl rfl rfl rfl (by kernel_rfl) Tryz.func7 (by kernel_rfl)
  (of_decide_eq_true (by kernel_rfl)) (by unfold Func.isWrapper; first | (rw [if_pos (by decide +kernel)]; kernel_rfl) | (rw [if_neg (by decide +kernel)]; exact ⟨rfl, rfl⟩))
  (fun os started H enc _ => lifted os started H enc)

theorem proved : Rows.GossipRememberCardSaid :=
 Claim7.holds_tied_plain_at .later [] [.data, .data, .sentinel] true (true, "c578d5295a2e4adb68b76fd72e8b48f6cb8355a5e326fb92d1d1f12a6d59b363") false
  over (fun _ h => by cases h) (by kernel_rfl) (fun _ h => by cases h) gossipRemember_row_tie rfl ⟨rfl, rfl⟩ (by kernel_rfl) rfl
  (fun f fn hf hfn => by
    obtain rfl : f = 7 := Option.some.inj ((show Tryz.prog.funcNamed "chartroom/chartroomlaw36.GossipRemember" = some 7 by kernel_rfl).symm.trans hf) |>.symm
    obtain rfl : fn = Tryz.f7 := (Option.some.inj (Tryz.func7.symm.trans hfn)).symm
    exact ⟨by kernel_rfl, fun j t ht => by
     rw [Tryz.params7] at ht
     have hm : t ∈ [32, 40] := by simpa using Array.mem_of_getElem? ht
     have hall : ([32, 40].all fun u => !Tryz.prog.wantsStandIn u) = true := by kernel_rfl
     exact (show Tryz.prog.wantsStandIn t = false by simpa using List.all_eq_true.1 hall t hm)⟩)
  (by kernel_rfl)
#print axioms proved
end Go.Proofs.YthnfjkgiaanmhaaGreatDoor.lawGRemember
