/- ViewsAcceptSpec: for every view, all entries and every head the law returns true and its arguments read as before; the package variables digest.start and digest.numbers are as the program's text lays them (the tied card); no other condition. -/
import Derived.Test.YtnonfdcbnkdmcaaGreatDoorRvX
import Derived.Test.YtnonfdcbnkdmcaaGreatDoorVwf
import Derived.Test.YtnonfdcbnkdmcaaGreatDoorSnq
import Derived.Test.YtnonfdcbnkdmcaaGreatDoorAcc
import Derived.Test.YtnonfdcbnkdmcaaGreatDoorCards
import Derived.Test.YtnonfdcbnkdmcaaGreatDoorTie
import Derived.SevenTiedAt
import Derived.Deep.DeepHandedRow
import Derived.Deep.DeepWitnessRowRef
namespace Go.Proofs.YtnonfdcbnkdmcaaGreatDoor
open Go.RowKit Go.Mem Go.Shelf
open Go.Sto (Ent)
open Go.Vw (Hd Fk zeroF accV)

theorem ESr.few' {w : World} {a : Option Addr} {n c : Nat} {l : List Ent} (H : ESr w a n c l) (h : fewE32 l = true) : ES (fun _ => True) w a n c l := by
 unfold fewE32 few30 fewE at h
 rw [Bool.and_eq_true, Bool.and_eq_true, decide_eq_true_iff, decide_eq_true_iff, List.all_eq_true] at h
 refine H.es (by have := H.len; omega) fun e he => ?_
 have := of_decide_eq_true (h.2.1 e he)
 omega

set_option maxRecDepth 100000 in
set_option maxHeartbeats 20000000 in
theorem vas_walk (v : Vw.V) (da : Option Addr) (dn dc : Nat) (ha : Option Addr) (hn hc : Nat) (la : Option Addr) (ln lc : Nat) (es : List Ent) (h : Hd) (ok : OkH h) (w : World) (HT : Tabs w) (HA : VMr w v da dn dc ha hn hc) (HE : ESr w la ln lc es) :
 Calls Tryz.prog 6 #[.agg #[.int .i64 v.st, .int .i64 v.fo, .int .i64 v.pub, .slice da dn dc, .slice ha hn hc], .slice la ln lc, .agg (hdC h).toArray] w (RetBo true w) := by
 have HA' := Lib.hid HA; have HE' := Lib.hid HE; have HT' := Lib.hid HT; have ok' := Lib.hid ok
 clear HA HE HT
 have hsa := Lib.hid (fun W hT => sane32_any W hT)
 have hfa := Lib.hid (fun W => few32_any v.st v.fo v.pub da dn dc ha hn hc W)
 have hfe := Lib.hid (fun W H => fewE32_any la ln lc es W H)
 have hfa' : Hid (fewV dn hn = true → dn ≤ 14 ∧ hn ≤ 8) := fewV_iff'
 have hfe' : Hid (fewE32 es = true → ES (fun _ => True) w la ln lc es) := HE'.out.few'
 obtain ⟨ba, eba⟩ : ∃ x, Hid (fewV dn hn = x) := ⟨_, rfl⟩
 obtain ⟨be, ebe⟩ : ∃ x, Hid (fewE32 es = x) := ⟨_, rfl⟩
 rw [eba.out] at hfa hfa'
 rw [ebe.out] at hfe hfe'
 clear eba ebe
 obtain ⟨tb, htb⟩ : ∃ tb, Hid (w.heap.size = tb) := ⟨_, rfl⟩
 obtain ⟨W1, hW1⟩ : ∃ W1, W1 = (w.alloc (.cells #[.int .i64 v.st, .int .i64 v.fo, .int .i64 v.pub, .slice da dn dc, .slice ha hn hc] 50)).alloc (.cells (hdC h).toArray 36) := ⟨_, rfl⟩
 have e1 : (w.alloc (.cells #[.int .i64 v.st, .int .i64 v.fo, .int .i64 v.pub, .slice da dn dc, .slice ha hn hc] 50)).heap.size = tb + 1 := by rw [World.size_alloc, htb.out]
 have hBa : Hid (Blk W1 tb 50 [.int .i64 v.st, .int .i64 v.fo, .int .i64 v.pub, .slice da dn dc, .slice ha hn hc]) := by rw [hW1, ← htb.out]; exact (Blk.new w _ _).alloc _
 have hBh : Hid (Blk W1 (tb + 1) 36 (hdC h)) := by rw [hW1, ← e1]; exact Blk.new _ _ _
 have hbw : Hid (Below w.heap.size w W1) := by rw [hW1]; exact ((Below.refl _ w).alloc (Nat.le_refl _) _).alloc (by simp) _
 clear e1
 have hri := infoHd ok
 have hac0 := Lib.hid (fun W hT h1 h2 h3 => accept_any v da dn dc ha hn hc la ln lc es h ok W hT h1 h2 h3)
 have har0 := Lib.hid (fun W h1 h2 h3 => r32accept_any v da dn dc ha hn hc la ln lc es h ok W h1 h2 h3)
 obtain ⟨rh, hrh⟩ : ∃ r, Hid (hdC h = r) := ⟨_, rfl⟩
 rw [hrh.out] at hW1 hBh hri hac0 har0 ⊢
 obtain ⟨X, hX⟩ : ∃ X, X = RetBo true w := ⟨_, rfl⟩
 have hfin : Hid (∀ W, Below w.heap.size w W → X (.returned (.bool true)) W) := fun W hb => by rw [hX]; exact ⟨rfl, hb⟩
 rw [← hX]
 clear hX hrh
 go_enter Tryz.func6, Tryz.ntmps6
 go_upto_region 1 with fail
 rw [htb.out]
 generalize hWq : (w.alloc _).alloc _ = Wq
 obtain rfl : W1 = Wq := by rw [← hWq, hW1]
 clear hWq hW1
 go_wp2_with fail
 refine (hsa.out _ (HT'.out.below hbw.out)).mono ?_
 rintro e w2 ⟨rfl, hst⟩
 replace hBa := Lib.hid (hBa.out.below hst hBa.out.lt)
 replace hBh := Lib.hid (hBh.out.below hst hBh.out.lt)
 replace hbw := Lib.hid (hbw.out.trans (hst.mono hbw.out.size))
 clear hst
 clear hsa
 have a0 := hBa.out.at_ (i := 0) rfl
 have a1 := hBa.out.at_ (i := 1) rfl
 have a2 := hBa.out.at_ (i := 2) rfl
 have a3 := hBa.out.at_ (i := 3) rfl
 have a4 := hBa.out.at_ (i := 4) rfl
 go_wp2_with fail
 refine (hfa.out _).mono ?_
 rintro e w3 ⟨rfl, hst⟩
 replace hBa := Lib.hid (hBa.out.below hst hBa.out.lt)
 replace hBh := Lib.hid (hBh.out.below hst hBh.out.lt)
 replace hbw := Lib.hid (hbw.out.trans (hst.mono hbw.out.size))
 clear hst
 clear hfa a0 a1 a2 a3 a4
 cases ba with
 | false =>
  have hf := Lib.hid (hfin.out _ hbw.out)
  go_wp2_with fail
  exact hf.out
 | true =>
 go_wp2_with fail
 refine (hfe.out _ (HE'.out.below hbw.out)).mono ?_
 rintro e w4 ⟨rfl, hw4⟩
 subst hw4
 clear hfe
 cases be with
 | false =>
  have hf := Lib.hid (hfin.out _ hbw.out)
  go_wp2_with fail
  exact hf.out
 | true =>
 have hES := Lib.hid (hfe'.out (by trivial))
 have hVA := Lib.hid (HA'.out.vm (Nat.le_trans (hfa'.out (by trivial)).1 (by decide)) (Nat.le_trans (hfa'.out (by trivial)).2 (by decide)))
 have hn8 := (hfa'.out (by trivial)).2
 clear hfa' hfe' HA' HE'
 have hac := Lib.hid (fun W hT h1 h2 => hac0.out W hT h1 h2 (by omega))
 have har := Lib.hid (fun W h1 h2 => har0.out W h1 h2 (by omega))
 clear hac0 har0 hn8
 obtain ⟨A, eA⟩ : ∃ x, Hid (accV v es h = x) := ⟨_, rfl⟩
 rw [eA.out] at hac har
 clear eA
 obtain ⟨x, f, e⟩ := A
 have a0 := hBa.out.at_ (i := 0) rfl
 have a1 := hBa.out.at_ (i := 1) rfl
 have a2 := hBa.out.at_ (i := 2) rfl
 have a3 := hBa.out.at_ (i := 3) rfl
 have a4 := hBa.out.at_ (i := 4) rfl
 have hrg := Lib.hid hBh.out.range
 go_wp2_with (first
  | (refine wpList_load_g (by rfl) 36 _ (by rfl) (tb + 1) 0 (by rfl) rh _ hrg.out Tryz.underlying36 (by rfl) hri.out ?_))
 refine (hac.out _ (HT'.out.below hbw.out) (hVA.out.below hbw.out) (hES.out.below hbw.out)).mono ?_
 rintro e2 w5 ⟨xda, xdn, xdc, xha, xhn, xhc, xfa, xfn, xfc, rfl, xV, xok, xD, x63, hst⟩
 simp only [] at xV xok xD
 clear hrg a0 a1 a2 a3 a4
 have xM := Lib.hid xV
 have xokf := Lib.hid xok
 have xDS := Lib.hid xD
 clear xV xok xD x63
 replace hBa := Lib.hid (hBa.out.below hst hBa.out.lt)
 replace hBh := Lib.hid (hBh.out.below hst hBh.out.lt)

 replace hbw := Lib.hid (hbw.out.trans (hst.mono hbw.out.size))
 clear hst
 simp only []
 have al : Below w5.heap.size w5 ((w5.alloc (.cells (zrV : List Value).toArray 50)).alloc (.cells (zrF : List Value).toArray 53)) := ((Below.refl _ w5).alloc (Nat.le_refl _) _).alloc (by simp) _
 have bV0 := (Blk.new w5 50 zrV).alloc (.cells (zrF : List Value).toArray 53)
 have bF0 := Blk.new (w5.alloc (.cells (zrV : List Value).toArray 50)) 53 zrF
 rw [World.size_alloc] at bF0
 obtain ⟨xq, xhq⟩ : ∃ q, Hid (w5.heap.size = q) := ⟨_, rfl⟩
 obtain ⟨w5a, hPv⟩ := put_row (ty := 50) bV0 (x := [.int .i64 x.st, .int .i64 x.fo, .int .i64 x.pub, .slice xda xdn xdc, .slice xha xhn xhc]) rfl sizeVw (view_one _ _ _ _ _ _ _ _ _)
 have bF1 := bF0.grown hPv.grown (fun e => by injection e with e; omega)
 obtain ⟨w5b, hPf⟩ := put_row (ty := 53) bF1 (x := forkC f xfa xfn xfc) (by rw [forkC_len xokf.out]; rfl) (by rw [forkC_len xokf.out]; exact sizeF) (forkC_one xokf.out _ _ _)
 have hst := below_grown (below_grown al hPv.grown al.size (Nat.le_refl _)) hPf.grown (Nat.le_trans al.size hPv.grown.size) (Nat.le_succ _)
 have xBV : Hid (Blk w5b xq 50 [.int .i64 x.st, .int .i64 x.fo, .int .i64 x.pub, .slice xda xdn xdc, .slice xha xhn xhc]) := by rw [← xhq.out]; exact hPv.blk.grown hPf.grown (fun e => by injection e with e; omega)
 have xBF : Hid (Blk w5b (xq + 1) 53 (forkC f xfa xfn xfc)) := by rw [← xhq.out]; exact hPf.blk
 clear al bV0 bF0 bF1
 replace xM := Lib.hid (xM.out.below hst)
 replace xDS := Lib.hid (xDS.out.below hst)
 replace hBa := Lib.hid (hBa.out.below hst hBa.out.lt)
 replace hBh := Lib.hid (hBh.out.below hst hBh.out.lt)

 replace hbw := Lib.hid (hbw.out.trans (hst.mono hbw.out.size))
 clear hst
 have hPv' := Lib.hid hPv; have hPf' := Lib.hid hPf
 rw [xhq.out] at hPv' hPf'
 have xfi := infoF xokf.out xfa xfn xfc
 obtain ⟨xrf, xhrf⟩ : ∃ r, Hid (forkC f xfa xfn xfc = r) := ⟨_, rfl⟩
 rw [xhrf.out] at hPf' xBF xfi ⊢
 clear hPv hPf
 go_upto_region 6 with (first
  | (rw [xhq.out]
     refine wpList_store_mid (by rfl) 50 _ _ (by rfl) xq 0 ([.int .i64 x.st, .int .i64 x.fo, .int .i64 x.pub, .slice xda xdn xdc, .slice xha xhn xhc] : List Value).toArray (by rfl) (by rfl) hPv'.out.there hPv'.out.info (by simpa using hPv'.out.one) ?_
     generalize hWq : World.setCells _ _ _ _ = Wa
     obtain rfl : w5a = Wa := by rw [← hWq]; exact hPv'.out.eq
     clear hWq)
      | (refine wpList_store_mid (by rfl) 53 _ _ (by rfl) (xq + 1) 0 xrf.toArray (by rfl) (by rfl) hPf'.out.there hPf'.out.info (by simpa using hPf'.out.one) ?_
         generalize hWq : World.setCells _ _ _ _ = Wa
         obtain rfl : w5b = Wa := by rw [← hWq]; exact hPf'.out.eq
         clear hWq))
 try simp only [Act.put]
 clear hPv' hPf' xhq
 have a0 := hBa.out.at_ (i := 0) rfl
 have a1 := hBa.out.at_ (i := 1) rfl
 have a2 := hBa.out.at_ (i := 2) rfl
 have a3 := hBa.out.at_ (i := 3) rfl
 have a4 := hBa.out.at_ (i := 4) rfl
 have hrg := Lib.hid hBh.out.range
 go_wp2_with (first
  | (refine wpList_load_g (by rfl) 36 _ (by rfl) (tb + 1) 0 (by rfl) rh _ hrg.out Tryz.underlying36 (by rfl) hri.out ?_))
 refine (har.out _ (hVA.out.below hbw.out) (hES.out.below hbw.out)).mono ?_
 rintro e2 w6 ⟨yda, ydn, ydc, yha, yhn, yhc, yfa, yfn, yfc, rfl, yV, yok, yD, y63, hst⟩
 simp only [] at yV yok yD
 clear hrg a0 a1 a2 a3 a4
 have yM := Lib.hid yV
 have yokf := Lib.hid yok
 have yDS := Lib.hid yD
 clear yV yok yD y63
 replace hBa := Lib.hid (hBa.out.below hst hBa.out.lt)
 replace hBh := Lib.hid (hBh.out.below hst hBh.out.lt)
 replace xBV := Lib.hid (xBV.out.below hst xBV.out.lt)
 replace xBF := Lib.hid (xBF.out.below hst xBF.out.lt)
 replace xM := Lib.hid (xM.out.below hst)
 replace xDS := Lib.hid (xDS.out.below hst)
 replace hbw := Lib.hid (hbw.out.trans (hst.mono hbw.out.size))
 clear hst
 simp only []
 have al : Below w6.heap.size w6 ((w6.alloc (.cells (zrV : List Value).toArray 50)).alloc (.cells (zrF : List Value).toArray 53)) := ((Below.refl _ w6).alloc (Nat.le_refl _) _).alloc (by simp) _
 have bV0 := (Blk.new w6 50 zrV).alloc (.cells (zrF : List Value).toArray 53)
 have bF0 := Blk.new (w6.alloc (.cells (zrV : List Value).toArray 50)) 53 zrF
 rw [World.size_alloc] at bF0
 obtain ⟨yq, yhq⟩ : ∃ q, Hid (w6.heap.size = q) := ⟨_, rfl⟩
 obtain ⟨w6a, hPv⟩ := put_row (ty := 50) bV0 (x := [.int .i64 x.st, .int .i64 x.fo, .int .i64 x.pub, .slice yda ydn ydc, .slice yha yhn yhc]) rfl sizeVw (view_one _ _ _ _ _ _ _ _ _)
 have bF1 := bF0.grown hPv.grown (fun e => by injection e with e; omega)
 obtain ⟨w6b, hPf⟩ := put_row (ty := 53) bF1 (x := forkC f yfa yfn yfc) (by rw [forkC_len yokf.out]; rfl) (by rw [forkC_len yokf.out]; exact sizeF) (forkC_one yokf.out _ _ _)
 have hst := below_grown (below_grown al hPv.grown al.size (Nat.le_refl _)) hPf.grown (Nat.le_trans al.size hPv.grown.size) (Nat.le_succ _)
 have yBV : Hid (Blk w6b yq 50 [.int .i64 x.st, .int .i64 x.fo, .int .i64 x.pub, .slice yda ydn ydc, .slice yha yhn yhc]) := by rw [← yhq.out]; exact hPv.blk.grown hPf.grown (fun e => by injection e with e; omega)
 have yBF : Hid (Blk w6b (yq + 1) 53 (forkC f yfa yfn yfc)) := by rw [← yhq.out]; exact hPf.blk
 clear al bV0 bF0 bF1
 replace yM := Lib.hid (yM.out.below hst)
 replace yDS := Lib.hid (yDS.out.below hst)
 replace hBa := Lib.hid (hBa.out.below hst hBa.out.lt)
 replace hBh := Lib.hid (hBh.out.below hst hBh.out.lt)
 replace xBV := Lib.hid (xBV.out.below hst xBV.out.lt)
 replace xBF := Lib.hid (xBF.out.below hst xBF.out.lt)
 replace xM := Lib.hid (xM.out.below hst)
 replace xDS := Lib.hid (xDS.out.below hst)
 replace hbw := Lib.hid (hbw.out.trans (hst.mono hbw.out.size))
 clear hst
 have hPv' := Lib.hid hPv; have hPf' := Lib.hid hPf
 rw [yhq.out] at hPv' hPf'
 have yfi := infoF yokf.out yfa yfn yfc
 obtain ⟨yrf, yhrf⟩ : ∃ r, Hid (forkC f yfa yfn yfc = r) := ⟨_, rfl⟩
 rw [yhrf.out] at hPf' yBF yfi ⊢
 clear hPv hPf
 go_upto_region 7 with (first
  | (rw [yhq.out]
     refine wpList_store_mid (by rfl) 50 _ _ (by rfl) yq 0 ([.int .i64 x.st, .int .i64 x.fo, .int .i64 x.pub, .slice yda ydn ydc, .slice yha yhn yhc] : List Value).toArray (by rfl) (by rfl) hPv'.out.there hPv'.out.info (by simpa using hPv'.out.one) ?_
     generalize hWq : World.setCells _ _ _ _ = Wa
     obtain rfl : w6a = Wa := by rw [← hWq]; exact hPv'.out.eq
     clear hWq)
      | (refine wpList_store_mid (by rfl) 53 _ _ (by rfl) (yq + 1) 0 yrf.toArray (by rfl) (by rfl) hPf'.out.there hPf'.out.info (by simpa using hPf'.out.one) ?_
         generalize hWq : World.setCells _ _ _ _ = Wa
         obtain rfl : w6b = Wa := by rw [← hWq]; exact hPf'.out.eq
         clear hWq))
 try simp only [Act.put]
 clear hPv' hPf' yhq
 obtain rfl : ydn = xdn := yM.out.ds.len.symm.trans xM.out.ds.len
 obtain rfl : yhn = xhn := yM.out.hs.rs.len.symm.trans xM.out.hs.rs.len
 obtain rfl : yfn = xfn := yDS.out.len.symm.trans xDS.out.len
 have hsv : Hid (∀ W, Below w6b.heap.size w6b W → Calls Tryz.prog 23 #[.agg #[.int .i64 x.st, .int .i64 x.fo, .int .i64 x.pub, .slice xda ydn xdc, .slice xha yhn xhc], .agg #[.int .i64 x.st, .int .i64 x.fo, .int .i64 x.pub, .slice yda ydn ydc, .slice yha yhn yhc]] W (RetBo true W)) := fun W hW => sameV_any x xda ydn xdc xha yhn xhc yda ydc yha yhc W (xM.out.below hW) (yM.out.below hW)
 have hsf : Hid (∀ W, Below w6b.heap.size w6b W → Calls Tryz.prog 28 #[.agg xrf.toArray, .agg yrf.toArray] W (RetBo true W)) := fun W hW => by
  rw [← xhrf.out, ← yhrf.out]
  exact sameFk_any f xokf.out xfa yfn xfc yfa yfc W (xDS.out.below hW) (yDS.out.below hW)
 have a0 := xBV.out.at_ (i := 0) rfl
 have a1 := xBV.out.at_ (i := 1) rfl
 have a2 := xBV.out.at_ (i := 2) rfl
 have a3 := xBV.out.at_ (i := 3) rfl
 have a4 := xBV.out.at_ (i := 4) rfl
 have b0 := yBV.out.at_ (i := 0) rfl
 have b1 := yBV.out.at_ (i := 1) rfl
 have b2 := yBV.out.at_ (i := 2) rfl
 have b3 := yBV.out.at_ (i := 3) rfl
 have b4 := yBV.out.at_ (i := 4) rfl
 clear hac har hVA hES xhrf yhrf
 go_wp2_with fail
 refine (hsv.out _ (Below.refl _ _)).mono ?_
 rintro e2 w7 ⟨rfl, hst⟩
 have hb7 := hst
 replace xBF := Lib.hid (xBF.out.below hst xBF.out.lt)
 replace yBF := Lib.hid (yBF.out.below hst yBF.out.lt)
 replace hbw := Lib.hid (hbw.out.trans (hst.mono hbw.out.size))
 clear hst hsv a0 a1 a2 a3 a4 b0 b1 b2 b3 b4
 have hb8 := Lib.hid hb7
 clear hb7
 have hx := Lib.hid xBF.out.range
 have hy := Lib.hid yBF.out.range
 go_wp2_with (first
  | (refine wpList_load_g (by rfl) 53 (.tmp 8) (by rfl) (xq + 1) 0 (by rfl) xrf _ hx.out Tryz.underlying53 (by rfl) xfi.out ?_)
   | (refine wpList_load_g (by rfl) 53 (.tmp 11) (by rfl) (yq + 1) 0 (by rfl) yrf _ hy.out Tryz.underlying53 (by rfl) yfi.out ?_))
 refine (hsf.out _ hb8.out).mono ?_
 rintro e2 w9 ⟨rfl, hst⟩
 have hf := Lib.hid (hfin.out _ (hbw.out.trans (hst.mono hbw.out.size)))
 clear hst hx hy hsf
 go_wp2_with fail
 exact hf.out
end Go.Proofs.YtnonfdcbnkdmcaaGreatDoor
namespace Go.Proofs.YtnonfdcbnkdmcaaGreatDoor.lawVAcceptSpec
open Go.ChangeShapes Go.WideShapes Go.ChangeAt Go.RowKit Go.Mem
open Go.Proofs.YtnonfdcbnkdmcaaGreatDoor

set_option maxRecDepth 100000 in
theorem lifted (os : Os) (started : os.Started) (H : Type) (enc : TypeId × Value → H) :
 ReturnsInHanded {} Tryz.checked os 6 .any (fun w args => (Rows.viewsAcceptSpecSpec.pre enc Tryz.prog Tryz.f6 [] false w args ∧ laidMetH Tryz.prog laid2 w) ∧ sizedMet enc Tryz.prog Tryz.f6 (OpenSpec.ofChange Rows.viewsAcceptSpecSpec) false w args)
  (Rows.viewsAcceptSpecSpec.post enc Tryz.prog Tryz.f6 false true false false) := by
 refine returnsInHanded_of_change_and (C := Tryz.checked) (X := fun w _ => laidMetH Tryz.prog laid2 w) (fun _ _ _ hh h => h.of_heap hh) own started (by kernel_rfl) Tryz.func6
  (ChangeSpec.witness_shaped (enc := enc) (C := Tryz.checked) (os := os) (X := fun w _ => laidMetH Tryz.prog laid2 w) false (World.doorLaid Tryz.prog 400 os) #[.agg (vwC ⟨0, 0, 0, [], []⟩ none 0 0 none 0 0).toArray, .slice none 0 0, .agg (hdC Go.Vw.zeroH).toArray] 8 rfl (World.shaped_of_RefB (by kernel_rfl) (by kernel_rfl)) (by kernel_rfl) (by kernel_rfl) (by kernel_rfl) (door_met os _)) ?_
 intro W base args ds gs before hval0 hW _ hwt hL _
 have hval : ∀ (j : Nat) t v, Tryz.f6.params[j]? = some t → args[j]? = some v → Value.okWide Tryz.prog W .any base t v := hval0
 have hW' := hW
 obtain ⟨p, q, hA0, hV, rfl, hfz, hnd⟩ := hW
 have hA : DataW.TrodAll enc Tryz.prog W 0 (fun _ => true) true Tryz.f6.params.toList args.toList ds p := hA0
 rw [Tryz.params6] at hA hval
 obtain ⟨v0, vs0, d0, ds0, p0, q0, hargs, rfl, rfl, h0, r0⟩ := trodAll_cons hA
 obtain ⟨v1, vs1, d1, ds1, p1, q1, rfl, rfl, rfl, h1, r1⟩ := trodAll_cons r0
 obtain ⟨v2, vs2, d2, ds2, p2, q2, rfl, rfl, rfl, h2, r2⟩ := trodAll_cons r1
 obtain ⟨rfl, rfl, rfl⟩ := trodAll_nil r2
 obtain rfl : args = #[v0, v1, v2] := by cases args; simp_all
 obtain ⟨rfl, rfl⟩ := trodVars_none hV
 have lt0 : ∀ x ∈ p0, x.block < W.heap.size := by obtain ⟨m, hm⟩ := h0; exact DataW.trod_lt m _ _ _ hm
 have lt1 : ∀ x ∈ p1, x.block < W.heap.size := by obtain ⟨m, hm⟩ := h1; exact DataW.trod_lt m _ _ _ hm
 have lt2 : ∀ x ∈ p2, x.block < W.heap.size := by obtain ⟨m, hm⟩ := h2; exact DataW.trod_lt m _ _ _ hm
 have k0' := h0
 have k1' := h1
 have k2' := h2
 obtain ⟨cs0, rfl, _⟩ := okWide_struct Tryz.underlying50 (hval 0 50 v0 rfl rfl)
 obtain ⟨m0, hm0⟩ := h0
 obtain ⟨y0, da0, dn0, dc0, ha0, hn0, hc0, e0, S0⟩ := open_view (cs := cs0.toList) (by simpa [Value.cells] using hm0)
 obtain rfl : cs0 = (vwC y0 da0 dn0 dc0 ha0 hn0 hc0).toArray := by rw [← e0]
 clear hm0 e0
 obtain ⟨a1, n1, c1, rfl⟩ := okWide_slice Tryz.underlying30 (hval 1 30 v1 rfl rfl)
 obtain ⟨m1, hm1⟩ := h1
 obtain ⟨_, _, _, l1, e1, S1⟩ := open_ents (cs := [.slice a1 n1 c1]) (by simpa [Value.cells] using hm1)
 simp only [List.cons.injEq, Value.slice.injEq, and_true] at e1
 obtain ⟨rfl, rfl, rfl⟩ := e1
 clear hm1
 obtain ⟨cs2, rfl, _⟩ := okWide_struct Tryz.underlying36 (hval 2 36 v2 rfl rfl)
 obtain ⟨m2, hm2⟩ := h2
 obtain ⟨y2, ok2, e2⟩ := open_hd (cs := cs2.toList) (by simpa [Value.cells] using hm2)
 obtain rfl : cs2 = (hdC y2).toArray := by rw [← e2]
 clear hm2 e2
 have hT := tabs_of_laid hL
 clear hA0 hval0
 refine (vas_walk y0 da0 dn0 dc0 ha0 hn0 hc0 a1 n1 c1 l1 y2 ok2 W hT S0 S1).mono fun e W' ⟨he, bel⟩ => ?_
 subst he
 exact ⟨_, rfl, _, _, _, [], _, [], hW', trodAll_mk1 (shut_bool Tryz.underlying4 _),
  (trodAll_cons_mk (Below.trod laidOut (by kernel_rfl) (of_decide_eq_true (by kernel_rfl)) k0' bel lt0) (trodAll_cons_mk (Below.trod laidOut (by kernel_rfl) (of_decide_eq_true (by kernel_rfl)) k1' bel lt1) (trodAll_cons_mk (Below.trod laidOut (by kernel_rfl) (of_decide_eq_true (by kernel_rfl)) k2' bel lt2) trodAll_mk0))), rfl, bel.frame _, fun h => by cases h⟩

theorem over : Rows.ViewsAcceptSpecSaid :=
 OpenClaim.holds_of_wide 6 Tryz.f6 rfl rfl rfl rfl rfl rfl rfl ⟨rfl, rfl, rfl, rfl, rfl⟩ rfl rfl rfl rfl rfl (by kernel_rfl) Tryz.func6 (by kernel_rfl)
  (of_decide_eq_true (by kernel_rfl)) (by unfold Func.isWrapper; first | (rw [if_pos (by decide +kernel)]; kernel_rfl) | (rw [if_neg (by decide +kernel)]; exact ⟨rfl, rfl⟩))
  (fun os started H enc _ => lifted os started H enc)

theorem proved : Rows.ViewsAcceptSpecCardSaid :=
 Claim7.holds_tied_plain_at .later [] [.data, .data] true (true, "f1795c23477191a86de028924151d0d8d5cdfe28fb540b6f067f4dbe71f008fb") false
  over (fun _ h => by cases h) (by kernel_rfl) (fun _ h => by cases h) viewsAcceptSpec_row_tie rfl ⟨rfl, rfl⟩ (by kernel_rfl) rfl
  (fun f fn hf hfn => by
    obtain rfl : f = 6 := Option.some.inj ((show Tryz.prog.funcNamed "chartroom/chartroomlaw32.ViewsAcceptSpec" = some 6 by kernel_rfl).symm.trans hf) |>.symm
    obtain rfl : fn = Tryz.f6 := (Option.some.inj (Tryz.func6.symm.trans hfn)).symm
    exact ⟨by kernel_rfl, fun j t ht => by
     rw [Tryz.params6] at ht
     have hm : t ∈ [50, 30, 36] := by simpa using Array.mem_of_getElem? ht
     have hall : ([50, 30, 36].all fun u => !Tryz.prog.wantsStandIn u) = true := by kernel_rfl
     exact (show Tryz.prog.wantsStandIn t = false by simpa using List.all_eq_true.1 hall t hm)⟩)
  (by kernel_rfl)
#print axioms proved
end Go.Proofs.YtnonfdcbnkdmcaaGreatDoor.lawVAcceptSpec
