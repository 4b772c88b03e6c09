/- the walk of ViewsProofs -/
import Derived.Test.YtiionehcmoginaaGreatDoorSnq
import Derived.Test.YtiionehcmoginaaGreatDoorVwE
import Derived.Test.YtiionehcmoginaaGreatDoorCards
import Derived.Test.YtiionehcmoginaaGreatDoorTie
import Derived.SevenTiedAt
import Derived.Deep.DeepHandedRow
import Derived.Deep.DeepWitnessRowRef
namespace Go.Proofs.YtiionehcmoginaaGreatDoor
open Go.RowKit Go.Mem Go.Shelf
open Go.Sto (Ent)
open Go.Vw (Hd Fk zeroF accV cmpV proveV acc_proofs cmp_proofs)

theorem fewV_iff {a b : Nat} (h : fewV a b = true) : a ≤ 14 ∧ b ≤ 8 := by
  unfold fewV at h
  rw [Bool.and_eq_true, decide_eq_true_iff, decide_eq_true_iff] at h
  exact h
theorem ESr.few {w : World} {a : Option Addr} {n c : Nat} {l : List Ent} (H : ESr w a n c l) (h : fewE32 l = true) : ES (fun _ => True) w a n c l := by
  unfold fewE32 few30 fewE at h
  rw [Bool.and_eq_true, Bool.and_eq_true, decide_eq_true_iff, decide_eq_true_iff, List.all_eq_true] at h
  refine H.es (by have := H.len; omega) fun e he => ?_
  have := of_decide_eq_true (h.2.1 e he)
  omega

set_option maxRecDepth 100000 in
set_option maxHeartbeats 20000000 in
theorem proofs_walk (va : Vw.V) (da : Option Addr) (dn dc : Nat) (ha : Option Addr) (hn hc : Nat) (vb : Vw.V) (db : Option Addr) (bn bc : Nat) (hb : Option Addr) (bm bk : Nat) (la : Option Addr) (ln lc : Nat) (es : List Ent) (h : Hd) (ok : OkH h) (w : World) (HT : Tabs w)
    (HA : VMr w va da dn dc ha hn hc) (HB : VMr w vb db bn bc hb bm bk) (HE : ESr w la ln lc es) :
    Calls Tryz.prog 4 #[.agg #[.int .i64 va.st, .int .i64 va.fo, .int .i64 va.pub, .slice da dn dc, .slice ha hn hc], .agg #[.int .i64 vb.st, .int .i64 vb.fo, .int .i64 vb.pub, .slice db bn bc, .slice hb bm bk], .slice la ln lc, .agg (hdC h).toArray] w (RetBo true w) := by
  have HA' := Lib.hid HA; have HB' := Lib.hid HB; have HE' := Lib.hid HE; have HT' := Lib.hid HT
  clear HA HB HE HT
  have hsa := Lib.hid (fun W hT => sane32_any W hT)
  have hfa := Lib.hid (fun W => few32_any va.st va.fo va.pub da dn dc ha hn hc W)
  have hfb := Lib.hid (fun W => few32_any vb.st vb.fo vb.pub db bn bc hb bm bk W)
  have hfe := Lib.hid (fun W H => fewE32_any la ln lc es W H)
  have hfa' : Hid (fewV dn hn = true → dn ≤ 14 ∧ hn ≤ 8) := fewV_iff
  have hfb' : Hid (fewV bn bm = true → bn ≤ 14 ∧ bm ≤ 8) := fewV_iff
  have hfe' : Hid (fewE32 es = true → ES (fun _ => True) w la ln lc es) := HE'.out.few
  obtain ⟨ba, eba⟩ : ∃ x, Hid (fewV dn hn = x) := ⟨_, rfl⟩
  obtain ⟨bb, ebb⟩ : ∃ x, Hid (fewV bn bm = x) := ⟨_, rfl⟩
  obtain ⟨be, ebe⟩ : ∃ x, Hid (fewE32 es = x) := ⟨_, rfl⟩
  rw [eba.out] at hfa hfa'
  rw [ebb.out] at hfb hfb'
  rw [ebe.out] at hfe hfe'
  clear eba ebb ebe
  obtain ⟨tb, htb⟩ : ∃ tb, Hid (w.heap.size = tb) := ⟨_, rfl⟩
  obtain ⟨W1, hW1⟩ : ∃ W1, W1 = ((w.alloc (.cells #[.int .i64 va.st, .int .i64 va.fo, .int .i64 va.pub, .slice da dn dc, .slice ha hn hc] 45)).alloc (.cells #[.int .i64 vb.st, .int .i64 vb.fo, .int .i64 vb.pub, .slice db bn bc, .slice hb bm bk] 45)).alloc (.cells (hdC h).toArray 36) := ⟨_, rfl⟩
  have e1 : (w.alloc (.cells #[.int .i64 va.st, .int .i64 va.fo, .int .i64 va.pub, .slice da dn dc, .slice ha hn hc] 45)).heap.size = tb + 1 := by rw [World.size_alloc, htb.out]
  have e2 : ((w.alloc (.cells #[.int .i64 va.st, .int .i64 va.fo, .int .i64 va.pub, .slice da dn dc, .slice ha hn hc] 45)).alloc (.cells #[.int .i64 vb.st, .int .i64 vb.fo, .int .i64 vb.pub, .slice db bn bc, .slice hb bm bk] 45)).heap.size = tb + 1 + 1 := by rw [World.size_alloc, e1]
  have hBa : Hid (Blk W1 tb 45 [.int .i64 va.st, .int .i64 va.fo, .int .i64 va.pub, .slice da dn dc, .slice ha hn hc]) := by rw [hW1, ← htb.out]; exact ((Blk.new w _ _).alloc _).alloc _
  have hBb : Hid (Blk W1 (tb + 1) 45 [.int .i64 vb.st, .int .i64 vb.fo, .int .i64 vb.pub, .slice db bn bc, .slice hb bm bk]) := by rw [hW1, ← e1]; exact (Blk.new _ _ _).alloc _
  have hBh : Hid (Blk W1 (tb + 1 + 1) 36 (hdC h)) := by rw [hW1, ← e2]; exact Blk.new _ _ _
  have hbw : Hid (Below w.heap.size w W1) := by rw [hW1]; exact (((Below.refl _ w).alloc (Nat.le_refl _) _).alloc (by simp) _).alloc (by simp; omega) _
  clear e1 e2
  have hri := infoHd ok
  have ok' := Lib.hid ok
  clear ok
  obtain ⟨X, hX⟩ : ∃ X, X = RetBo true w := ⟨_, rfl⟩
  have hfin : Hid (∀ W, Below w.heap.size w W → X (.returned (.bool true)) W) := fun W hb => by rw [hX]; exact ⟨rfl, hb⟩
  rw [← hX]
  clear hX
  go_enter Tryz.func4, Tryz.ntmps4
  go_upto_region 1 with fail
  rw [htb.out]
  generalize hWq : ((w.alloc _).alloc _).alloc _ = Wq
  obtain rfl : W1 = Wq := by rw [← hWq, hW1]
  clear hWq hW1
  go_wp2_with fail
  refine (hsa.out _ (HT'.out.below hbw.out)).mono ?_
  rintro e w2 ⟨rfl, hst⟩
  replace hBa := Lib.hid (hBa.out.below hst hBa.out.lt)
  replace hBb := Lib.hid (hBb.out.below hst hBb.out.lt)
  replace hBh := Lib.hid (hBh.out.below hst hBh.out.lt)
  replace hbw := Lib.hid (hbw.out.trans (hst.mono hbw.out.size))
  clear hst hsa
  have a0 := hBa.out.at_ (i := 0) rfl
  have a1 := hBa.out.at_ (i := 1) rfl
  have a2 := hBa.out.at_ (i := 2) rfl
  have a3 := hBa.out.at_ (i := 3) rfl
  have a4 := hBa.out.at_ (i := 4) rfl
  go_wp2_with fail
  refine (hfa.out _).mono ?_
  rintro e w3 ⟨rfl, hst⟩
  replace hBa := Lib.hid (hBa.out.below hst hBa.out.lt)
  replace hBb := Lib.hid (hBb.out.below hst hBb.out.lt)
  replace hBh := Lib.hid (hBh.out.below hst hBh.out.lt)
  replace hbw := Lib.hid (hbw.out.trans (hst.mono hbw.out.size))
  clear hst hfa a0 a1 a2 a3 a4
  cases ba with
  | false =>
    have hf := Lib.hid (hfin.out _ hbw.out)
    go_wp2_with fail
    exact hf.out
  | true =>
  have b0 := hBb.out.at_ (i := 0) rfl
  have b1 := hBb.out.at_ (i := 1) rfl
  have b2 := hBb.out.at_ (i := 2) rfl
  have b3 := hBb.out.at_ (i := 3) rfl
  have b4 := hBb.out.at_ (i := 4) rfl
  go_wp2_with fail
  refine (hfb.out _).mono ?_
  rintro e w4 ⟨rfl, hst⟩
  replace hBa := Lib.hid (hBa.out.below hst hBa.out.lt)
  replace hBb := Lib.hid (hBb.out.below hst hBb.out.lt)
  replace hBh := Lib.hid (hBh.out.below hst hBh.out.lt)
  replace hbw := Lib.hid (hbw.out.trans (hst.mono hbw.out.size))
  clear hst hfb b0 b1 b2 b3 b4
  cases bb with
  | false =>
    have hf := Lib.hid (hfin.out _ hbw.out)
    go_wp2_with fail
    exact hf.out
  | true =>
  go_wp2_with fail
  refine (hfe.out _ (HE'.out.below hbw.out)).mono ?_
  rintro e w5 ⟨rfl, hw5⟩
  subst hw5
  clear hfe
  cases be with
  | false =>
    have hf := Lib.hid (hfin.out _ hbw.out)
    go_wp2_with fail
    exact hf.out
  | true =>
  have hES := Lib.hid (hfe'.out (by trivial))
  have hVA := Lib.hid (HA'.out.vm (Nat.le_trans (hfa'.out (by trivial)).1 (by decide)) (Nat.le_trans (hfa'.out (by trivial)).2 (by decide)))
  have hVB := Lib.hid (HB'.out.vm (Nat.le_trans (hfb'.out (by trivial)).1 (by decide)) (Nat.le_trans (hfb'.out (by trivial)).2 (by decide)))
  have hn8 := Lib.hid (hfa'.out (by trivial)).2
  clear hfa' hfb' hfe' HA' HB' HE'
  have hac := Lib.hid (fun W hT h1 h2 => accept_any va da dn dc ha hn hc la ln lc es h ok'.out W hT h1 h2 (by have := hn8.out; omega))
  have hcm := Lib.hid (fun W hT h1 h2 => compare_any va da dn dc ha hn hc vb db bn bc hb bm bk W hT h1 h2)
  have hpr := Lib.hid (acc_proofs (v := va) (l := es) (h := h))
  have hcp := Lib.hid (fun hq => cmp_proofs (a := va) (b := vb) hq)
  obtain ⟨A, eA⟩ : ∃ x, Hid (accV va es h = x) := ⟨_, rfl⟩
  obtain ⟨C, eC⟩ : ∃ x, Hid (cmpV va vb = x) := ⟨_, rfl⟩
  rw [eA.out] at hac hpr
  rw [eC.out] at hcm hcp
  clear eA eC
  obtain ⟨x, f, e⟩ := A
  obtain ⟨g, gb⟩ := C
  simp only [] at hac hcm hpr hcp
  have hrg := Lib.hid hBh.out.range
  have a0 := hBa.out.at_ (i := 0) rfl
  have a1 := hBa.out.at_ (i := 1) rfl
  have a2 := hBa.out.at_ (i := 2) rfl
  have a3 := hBa.out.at_ (i := 3) rfl
  have a4 := hBa.out.at_ (i := 4) rfl
  go_wp2_with (first
    | (refine wpList_load_g (by rfl) 36 _ (by rfl) (tb + 1 + 1) 0 (by rfl) (hdC h) _ hrg.out Tryz.underlying36 (by rfl) hri.out ?_))
  refine (hac.out _ (HT'.out.below hbw.out) (hVA.out.below hbw.out) (hES.out.below hbw.out)).mono ?_
  rintro e2 w6 ⟨xa, xn, xc, ya, yn, yc, fa, fn, fc, rfl, hVM, okf, hdf, fn63, hst⟩
  clear hac hrg a0 a1 a2 a3 a4
  have okf' := Lib.hid okf
  have fn63' := Lib.hid fn63
  simp only [] at hVM hdf
  clear okf fn63
  clear hBh
  replace hBa := Lib.hid (hBa.out.below hst hBa.out.lt)
  replace hBb := Lib.hid (hBb.out.below hst hBb.out.lt)
  replace hbw := Lib.hid (hbw.out.trans (hst.mono hbw.out.size))
  clear hst
  have hMx := Lib.hid hVM
  clear hVM
  have hDf := Lib.hid hdf
  clear hdf
  have al : Below w6.heap.size w6 ((w6.alloc (.cells (zrV : List Value).toArray 45)).alloc (.cells (zrF : List Value).toArray 48)) := ((Below.refl _ w6).alloc (Nat.le_refl _) _).alloc (by simp) _
  have bV0 := (Blk.new w6 45 zrV).alloc (.cells (zrF : List Value).toArray 48)
  have bF0 := Blk.new (w6.alloc (.cells (zrV : List Value).toArray 45)) 48 zrF
  rw [World.size_alloc] at bF0
  obtain ⟨v6a, hPv⟩ : ∃ V, Hid (PutR 45 ((w6.alloc (.cells (zrV : List Value).toArray 45)).alloc (.cells (zrF : List Value).toArray 48)) V w6.heap.size 45 ([.int .i64 x.st, .int .i64 x.fo, .int .i64 x.pub, .slice xa xn xc, .slice ya yn yc])) := put_row bV0 rfl sizeVw (view_one _ _ _ _ _ _ _ _ _)
  have bF1 := bF0.grown hPv.out.grown (fun e => by injection e with e; omega)
  obtain ⟨v6, hPf⟩ : ∃ V, Hid (PutR 48 v6a V (w6.heap.size + 1) 48 (forkC f fa fn fc)) := put_row bF1 (by rw [forkC_len okf'.out]; rfl) (by rw [forkC_len okf'.out]; exact sizeF) (forkC_one okf'.out _ _ _)
  have hst := below_grown (below_grown al hPv.out.grown al.size (Nat.le_refl _)) hPf.out.grown (Nat.le_trans al.size hPv.out.grown.size) (Nat.le_succ _)
  have hBx := Lib.hid (hPv.out.blk.grown hPf.out.grown (fun e => by injection e with e; omega))
  have hBf := Lib.hid hPf.out.blk
  clear al bV0 bF0 bF1
  replace hBa := Lib.hid (hBa.out.below hst hBa.out.lt)
  replace hBb := Lib.hid (hBb.out.below hst hBb.out.lt)
  replace hMx := Lib.hid (hMx.out.below hst)
  replace hDf := Lib.hid (hDf.out.below hst)
  replace hbw := Lib.hid (hbw.out.trans (hst.mono hbw.out.size))
  clear hst
  by_cases he : e = 321
  case pos =>
    subst he
    obtain ⟨hp0, hxv⟩ := hpr.out.1 rfl
    subst hxv
    have hp0' := Lib.hid hp0
    clear hp0 hpr
    obtain rfl : xn = dn := hMx.out.ds.len.symm.trans hVA.out.ds.len
    obtain rfl : yn = hn := hMx.out.hs.rs.len.symm.trans hVA.out.hs.rs.len
    have hfr := Lib.hid hBf.out.range
    have hfi := infoF okf'.out fa fn fc
    have a0 := hBa.out.at_ (i := 0) rfl
    have a1 := hBa.out.at_ (i := 1) rfl
    have a2 := hBa.out.at_ (i := 2) rfl
    have a3 := hBa.out.at_ (i := 3) rfl
    have a4 := hBa.out.at_ (i := 4) rfl
    go_wp2_with (first
      | (refine wpList_store_mid (by rfl) 45 (.tmp 9) (.tmp 34) (by rfl) w6.heap.size 0 ([.int .i64 x.st, .int .i64 x.fo, .int .i64 x.pub, .slice xa xn xc, .slice ya yn yc]).toArray (by rfl) (by rfl) hPv.out.there hPv.out.info (by simpa using hPv.out.one) ?_
         generalize hWq : World.setCells _ _ _ _ = Wa
         obtain rfl : v6a = Wa := by rw [← hWq]; exact hPv.out.eq
         clear hWq)
      | (refine wpList_store_mid (by rfl) 48 (.tmp 10) (.tmp 35) (by rfl) (w6.heap.size + 1) 0 ((forkC f fa fn fc)).toArray (by rfl) (by rfl) hPf.out.there hPf.out.info (by simpa using hPf.out.one) ?_
         generalize hWq : World.setCells _ _ _ _ = Wa
         obtain rfl : v6 = Wa := by rw [← hWq]; exact hPf.out.eq
         clear hWq)
      | (refine wpList_load_g (by rfl) 48 _ (by rfl) (w6.heap.size + 1) 0 (by rfl) (forkC f fa fn fc) _ hfr.out Tryz.underlying48 (by rfl) hfi.out ?_))
    have hq := prove_any x.pub hVA.out.pub f okf'.out fa fn fc _ (HT'.out.below hbw.out) hDf.out fn63'.out
    rw [hp0'.out] at hq
    refine hq.mono ?_
    rintro e2 w7 ⟨rfl, hst⟩
    clear hq hfr a0 a1 a2 a3 a4 hPv hPf
    replace hBa := Lib.hid (hBa.out.below hst hBa.out.lt)
    replace hBb := Lib.hid (hBb.out.below hst hBb.out.lt)
    replace hMx := Lib.hid (hMx.out.below hst)
    replace hDf := Lib.hid (hDf.out.below hst)
    replace hBx := Lib.hid (hBx.out.below hst hBx.out.lt)
    replace hBf := Lib.hid (hBf.out.below hst hBf.out.lt)
    replace hbw := Lib.hid (hbw.out.trans (hst.mono hbw.out.size))
    clear hst
    have a0 := hBa.out.at_ (i := 0) rfl
    have a1 := hBa.out.at_ (i := 1) rfl
    have a2 := hBa.out.at_ (i := 2) rfl
    have a3 := hBa.out.at_ (i := 3) rfl
    have a4 := hBa.out.at_ (i := 4) rfl
    have b0 := hBx.out.at_ (i := 0) rfl
    have b1 := hBx.out.at_ (i := 1) rfl
    have b2 := hBx.out.at_ (i := 2) rfl
    have b3 := hBx.out.at_ (i := 3) rfl
    have b4 := hBx.out.at_ (i := 4) rfl
    go_wp2_with fail
    refine (sameV_any x xa xn xc ya yn yc da dc ha hc _ hMx.out (hVA.out.below hbw.out)).mono ?_
    rintro e2 w8 ⟨rfl, hst⟩
    clear a0 a1 a2 a3 a4 b0 b1 b2 b3 b4
    replace hBa := Lib.hid (hBa.out.below hst hBa.out.lt)
    replace hBb := Lib.hid (hBb.out.below hst hBb.out.lt)
    replace hMx := Lib.hid (hMx.out.below hst)
    replace hDf := Lib.hid (hDf.out.below hst)
    replace hBx := Lib.hid (hBx.out.below hst hBx.out.lt)
    replace hBf := Lib.hid (hBf.out.below hst hBf.out.lt)
    replace hbw := Lib.hid (hbw.out.trans (hst.mono hbw.out.size))
    clear hst
    have a0 := hBa.out.at_ (i := 0) rfl
    have a1 := hBa.out.at_ (i := 1) rfl
    have a2 := hBa.out.at_ (i := 2) rfl
    have a3 := hBa.out.at_ (i := 3) rfl
    have a4 := hBa.out.at_ (i := 4) rfl
    have b0 := hBb.out.at_ (i := 0) rfl
    have b1 := hBb.out.at_ (i := 1) rfl
    have b2 := hBb.out.at_ (i := 2) rfl
    have b3 := hBb.out.at_ (i := 3) rfl
    have b4 := hBb.out.at_ (i := 4) rfl
    go_wp2_with fail
    clear a0 a1 a2 a3 a4 b0 b1 b2 b3 b4
    refine (hcm.out _ (HT'.out.below hbw.out) (hVA.out.below hbw.out) (hVB.out.below hbw.out)).mono ?_
    rintro e2 w9 ⟨ga, gn, gc, rfl, okg, hdg, gn63, hst⟩
    simp only [] at okg hdg
    have okg' := Lib.hid okg
    have gn63' := Lib.hid gn63
    clear hcm okg gn63
    replace hBa := Lib.hid (hBa.out.below hst hBa.out.lt)
    replace hBb := Lib.hid (hBb.out.below hst hBb.out.lt)
    replace hMx := Lib.hid (hMx.out.below hst)
    replace hDf := Lib.hid (hDf.out.below hst)
    replace hBx := Lib.hid (hBx.out.below hst hBx.out.lt)
    replace hBf := Lib.hid (hBf.out.below hst hBf.out.lt)
    replace hbw := Lib.hid (hbw.out.trans (hst.mono hbw.out.size))
    clear hst
    have hDg := Lib.hid hdg
    clear hdg
    obtain ⟨v9, hP⟩ : ∃ V, Hid (PutR 48 (w9.alloc (.cells (zrF : List Value).toArray 48)) V w9.heap.size 48 (forkC g ga gn gc)) := put_row (Blk.new w9 48 (zrF)) (by rw [forkC_len okg'.out]; rfl) (by rw [forkC_len okg'.out]; exact sizeF) (forkC_one okg'.out _ _ _)
    have hst := below_grown ((Below.refl _ w9).alloc (Nat.le_refl _) _) hP.out.grown (by simp) (Nat.le_refl _)
    replace hBa := Lib.hid (hBa.out.below hst hBa.out.lt)
    replace hBb := Lib.hid (hBb.out.below hst hBb.out.lt)
    replace hMx := Lib.hid (hMx.out.below hst)
    replace hDf := Lib.hid (hDf.out.below hst)
    replace hBx := Lib.hid (hBx.out.below hst hBx.out.lt)
    replace hBf := Lib.hid (hBf.out.below hst hBf.out.lt)
    replace hDg := Lib.hid (hDg.out.below hst)
    replace hbw := Lib.hid (hbw.out.trans (hst.mono hbw.out.size))
    clear hst
    have hBg := Lib.hid hP.out.blk
    cases gb with
    | false =>
      have hf := Lib.hid (hfin.out _ hbw.out)
      go_wp2_with (first
        | (refine wpList_store_mid (by rfl) 48 (.tmp 12) (.tmp 64) (by rfl) w9.heap.size 0 ((forkC g ga gn gc)).toArray (by rfl) (by rfl) hP.out.there hP.out.info (by simpa using hP.out.one) ?_
           generalize hWq : World.setCells _ _ _ _ = Wa
           obtain rfl : v9 = Wa := by rw [← hWq]; exact hP.out.eq
           clear hWq))
      exact hf.out
    | true =>
      have hgr := Lib.hid hBg.out.range
      have hgi := infoF okg'.out ga gn gc
      have a2 := hBa.out.at_ (i := 2) rfl
      go_wp2_with (first
        | (refine wpList_store_mid (by rfl) 48 (.tmp 12) (.tmp 64) (by rfl) w9.heap.size 0 ((forkC g ga gn gc)).toArray (by rfl) (by rfl) hP.out.there hP.out.info (by simpa using hP.out.one) ?_
           generalize hWq : World.setCells _ _ _ _ = Wa
           obtain rfl : v9 = Wa := by rw [← hWq]; exact hP.out.eq
           clear hWq)
        | (refine wpList_load_g (by rfl) 48 _ (by rfl) w9.heap.size 0 (by rfl) (forkC g ga gn gc) _ hgr.out Tryz.underlying48 (by rfl) hgi.out ?_))
      have hq := prove_any x.pub hVA.out.pub g okg'.out ga gn gc _ (HT'.out.below hbw.out) hDg.out gn63'.out
      rw [hcp.out (by trivial)] at hq
      refine hq.mono ?_
      rintro e2 w10 ⟨rfl, hst⟩
      clear hq a2
      replace hBa := Lib.hid (hBa.out.below hst hBa.out.lt)
      replace hBb := Lib.hid (hBb.out.below hst hBb.out.lt)
      replace hMx := Lib.hid (hMx.out.below hst)
      replace hDf := Lib.hid (hDf.out.below hst)
      replace hBx := Lib.hid (hBx.out.below hst hBx.out.lt)
      replace hBf := Lib.hid (hBf.out.below hst hBf.out.lt)
      replace hDg := Lib.hid (hDg.out.below hst)
      replace hBg := Lib.hid (hBg.out.below hst hBg.out.lt)
      replace hbw := Lib.hid (hbw.out.trans (hst.mono hbw.out.size))
      clear hst
      have hf := Lib.hid (hfin.out _ hbw.out)
      go_wp2_with fail
      exact hf.out
  case neg =>
    have hz := hpr.out.2 he
    subst hz
    have g1 : (e == 321) = false := by simpa using he
    have g2 : (e != 321) = true := by simpa using he
    clear he hpr
    obtain rfl : fn = 0 := hDf.out.len.symm
    have hsf := Lib.hid (fun W H => sameF_zero fa fc W H)
    have hfr := Lib.hid hBf.out.range
    have hfi := infoF okf'.out fa 0 fc
    clear okf'
    generalize forkC zeroF fa 0 fc = rf at *
    have a0 := hBa.out.at_ (i := 0) rfl
    have a1 := hBa.out.at_ (i := 1) rfl
    have a2 := hBa.out.at_ (i := 2) rfl
    have a3 := hBa.out.at_ (i := 3) rfl
    have a4 := hBa.out.at_ (i := 4) rfl
    go_upto_region 6 with (first
      | (refine wpList_store_mid (by rfl) 45 (.tmp 9) (.tmp 34) (by rfl) w6.heap.size 0 ([.int .i64 x.st, .int .i64 x.fo, .int .i64 x.pub, .slice xa xn xc, .slice ya yn yc]).toArray (by rfl) (by rfl) hPv.out.there hPv.out.info (by simpa using hPv.out.one) ?_
         generalize hWq : World.setCells _ _ _ _ = Wa
         obtain rfl : v6a = Wa := by rw [← hWq]; exact hPv.out.eq
         clear hWq)
      | (refine wpList_store_mid (by rfl) 48 (.tmp 10) (.tmp 35) (by rfl) (w6.heap.size + 1) 0 ((rf)).toArray (by rfl) (by rfl) hPf.out.there hPf.out.info (by simpa using hPf.out.one) ?_
         generalize hWq : World.setCells _ _ _ _ = Wa
         obtain rfl : v6 = Wa := by rw [← hWq]; exact hPf.out.eq
         clear hWq))
    go_upto_region 8 with fail
    go_wp2_with (first
      | (refine wpList_load_g (by rfl) 48 _ (by rfl) (w6.heap.size + 1) 0 (by rfl) (rf) _ hfr.out Tryz.underlying48 (by rfl) hfi.out ?_))
    refine (hsf.out _ hDf.out).mono ?_
    rintro e2 w7 ⟨rfl, hst⟩
    clear hfr a0 a1 a2 a3 a4 hPv hPf
    replace hBa := Lib.hid (hBa.out.below hst hBa.out.lt)
    replace hBb := Lib.hid (hBb.out.below hst hBb.out.lt)
    replace hMx := Lib.hid (hMx.out.below hst)
    replace hDf := Lib.hid (hDf.out.below hst)
    replace hBx := Lib.hid (hBx.out.below hst hBx.out.lt)
    replace hBf := Lib.hid (hBf.out.below hst hBf.out.lt)
    replace hbw := Lib.hid (hbw.out.trans (hst.mono hbw.out.size))
    clear hst
    have a0 := hBa.out.at_ (i := 0) rfl
    have a1 := hBa.out.at_ (i := 1) rfl
    have a2 := hBa.out.at_ (i := 2) rfl
    have a3 := hBa.out.at_ (i := 3) rfl
    have a4 := hBa.out.at_ (i := 4) rfl
    have b0 := hBb.out.at_ (i := 0) rfl
    have b1 := hBb.out.at_ (i := 1) rfl
    have b2 := hBb.out.at_ (i := 2) rfl
    have b3 := hBb.out.at_ (i := 3) rfl
    have b4 := hBb.out.at_ (i := 4) rfl
    go_wp2_with fail
    clear a0 a1 a2 a3 a4 b0 b1 b2 b3 b4
    refine (hcm.out _ (HT'.out.below hbw.out) (hVA.out.below hbw.out) (hVB.out.below hbw.out)).mono ?_
    rintro e2 w8 ⟨ga, gn, gc, rfl, okg, hdg, gn63, hst⟩
    simp only [] at okg hdg
    have okg' := Lib.hid okg
    have gn63' := Lib.hid gn63
    clear hcm okg gn63
    replace hBa := Lib.hid (hBa.out.below hst hBa.out.lt)
    replace hBb := Lib.hid (hBb.out.below hst hBb.out.lt)
    replace hMx := Lib.hid (hMx.out.below hst)
    replace hDf := Lib.hid (hDf.out.below hst)
    replace hBx := Lib.hid (hBx.out.below hst hBx.out.lt)
    replace hBf := Lib.hid (hBf.out.below hst hBf.out.lt)
    replace hbw := Lib.hid (hbw.out.trans (hst.mono hbw.out.size))
    clear hst
    have hDg := Lib.hid hdg
    clear hdg
    obtain ⟨v8, hP⟩ : ∃ V, Hid (PutR 48 (w8.alloc (.cells (zrF : List Value).toArray 48)) V w8.heap.size 48 (forkC g ga gn gc)) := put_row (Blk.new w8 48 (zrF)) (by rw [forkC_len okg'.out]; rfl) (by rw [forkC_len okg'.out]; exact sizeF) (forkC_one okg'.out _ _ _)
    have hst := below_grown ((Below.refl _ w8).alloc (Nat.le_refl _) _) hP.out.grown (by simp) (Nat.le_refl _)
    replace hBa := Lib.hid (hBa.out.below hst hBa.out.lt)
    replace hBb := Lib.hid (hBb.out.below hst hBb.out.lt)
    replace hMx := Lib.hid (hMx.out.below hst)
    replace hDf := Lib.hid (hDf.out.below hst)
    replace hBx := Lib.hid (hBx.out.below hst hBx.out.lt)
    replace hBf := Lib.hid (hBf.out.below hst hBf.out.lt)
    replace hDg := Lib.hid (hDg.out.below hst)
    replace hbw := Lib.hid (hbw.out.trans (hst.mono hbw.out.size))
    clear hst
    have hBg := Lib.hid hP.out.blk
    cases gb with
    | false =>
      have hf := Lib.hid (hfin.out _ hbw.out)
      go_wp2_with (first
        | (refine wpList_store_mid (by rfl) 48 (.tmp 12) (.tmp 64) (by rfl) w8.heap.size 0 ((forkC g ga gn gc)).toArray (by rfl) (by rfl) hP.out.there hP.out.info (by simpa using hP.out.one) ?_
           generalize hWq : World.setCells _ _ _ _ = Wa
           obtain rfl : v8 = Wa := by rw [← hWq]; exact hP.out.eq
           clear hWq))
      exact hf.out
    | true =>
      have hgr := Lib.hid hBg.out.range
      have hgi := infoF okg'.out ga gn gc
      have a2 := hBa.out.at_ (i := 2) rfl
      go_wp2_with (first
        | (refine wpList_store_mid (by rfl) 48 (.tmp 12) (.tmp 64) (by rfl) w8.heap.size 0 ((forkC g ga gn gc)).toArray (by rfl) (by rfl) hP.out.there hP.out.info (by simpa using hP.out.one) ?_
           generalize hWq : World.setCells _ _ _ _ = Wa
           obtain rfl : v8 = Wa := by rw [← hWq]; exact hP.out.eq
           clear hWq)
        | (refine wpList_load_g (by rfl) 48 _ (by rfl) w8.heap.size 0 (by rfl) (forkC g ga gn gc) _ hgr.out Tryz.underlying48 (by rfl) hgi.out ?_))
      have hq := prove_any va.pub hVA.out.pub g okg'.out ga gn gc _ (HT'.out.below hbw.out) hDg.out gn63'.out
      rw [hcp.out (by trivial)] at hq
      refine hq.mono ?_
      rintro e2 w9 ⟨rfl, hst⟩
      clear hq a2
      replace hBa := Lib.hid (hBa.out.below hst hBa.out.lt)
      replace hBb := Lib.hid (hBb.out.below hst hBb.out.lt)
      replace hMx := Lib.hid (hMx.out.below hst)
      replace hDf := Lib.hid (hDf.out.below hst)
      replace hBx := Lib.hid (hBx.out.below hst hBx.out.lt)
      replace hBf := Lib.hid (hBf.out.below hst hBf.out.lt)
      replace hDg := Lib.hid (hDg.out.below hst)
      replace hBg := Lib.hid (hBg.out.below hst hBg.out.lt)
      replace hbw := Lib.hid (hbw.out.trans (hst.mono hbw.out.size))
      clear hst
      have hf := Lib.hid (hfin.out _ hbw.out)
      go_wp2_with fail
      exact hf.out
end Go.Proofs.YtiionehcmoginaaGreatDoor
namespace Go.Proofs.YtiionehcmoginaaGreatDoor.lawProofs
open Go.ChangeShapes Go.WideShapes Go.ChangeAt Go.RowKit Go.Mem
open Go.Proofs.YtiionehcmoginaaGreatDoor

set_option maxRecDepth 100000 in
theorem lifted (os : Os) (started : os.Started) (H : Type) (enc : TypeId × Value → H) :
    ReturnsInHanded {} Tryz.checked os 4 .any (fun w args => (Rows.viewsProofsSpec.pre enc Tryz.prog Tryz.f4 [] false w args ∧ laidMetH Tryz.prog laid2 w) ∧ sizedMet enc Tryz.prog Tryz.f4 (OpenSpec.ofChange Rows.viewsProofsSpec) false w args)
      (Rows.viewsProofsSpec.post enc Tryz.prog Tryz.f4 false true false false) := by
  refine returnsInHanded_of_change_and (C := Tryz.checked) (X := fun w _ => laidMetH Tryz.prog laid2 w) (fun _ _ _ hh h => h.of_heap hh) own started (by kernel_rfl) Tryz.func4
    (ChangeSpec.witness_shaped (enc := enc) (C := Tryz.checked) (os := os) (X := fun w _ => laidMetH Tryz.prog laid2 w) false (World.doorLaid Tryz.prog 400 os) #[.agg (vwC ⟨0, 0, 0, [], []⟩ none 0 0 none 0 0).toArray, .agg (vwC ⟨0, 0, 0, [], []⟩ none 0 0 none 0 0).toArray, .slice none 0 0, .agg (hdC Go.Vw.zeroH).toArray] 8 rfl (World.shaped_of_RefB (by kernel_rfl) (by kernel_rfl)) (by kernel_rfl) (by kernel_rfl) (by kernel_rfl) (door_met os _)) ?_
  intro W base args ds gs before hval0 hW _ _ hL _
  have hval : ∀ (j : Nat) t v, Tryz.f4.params[j]? = some t → args[j]? = some v → Value.okWide Tryz.prog W .any base t v := hval0
  have hW' := hW
  obtain ⟨p, q, hA0, hV, rfl, hfz, hnd⟩ := hW
  have hA : DataW.TrodAll enc Tryz.prog W 0 (fun _ => true) true Tryz.f4.params.toList args.toList ds p := hA0
  rw [Tryz.params4] at hA hval
  obtain ⟨v0, vs0, d0, ds0, p0, q0, hargs, rfl, rfl, h0, r0⟩ := trodAll_cons hA
  obtain ⟨v1, vs1, d1, ds1, p1, q1, rfl, rfl, rfl, h1, r1⟩ := trodAll_cons r0
  obtain ⟨v2, vs2, d2, ds2, p2, q2, rfl, rfl, rfl, h2, r2⟩ := trodAll_cons r1
  obtain ⟨v3, vs3, d3, ds3, p3, q3, rfl, rfl, rfl, h3, r3⟩ := trodAll_cons r2
  obtain ⟨rfl, rfl, rfl⟩ := trodAll_nil r3
  obtain rfl : args = #[v0, v1, v2, v3] := by cases args; simp_all
  obtain ⟨rfl, rfl⟩ := trodVars_none hV
  have lt0 : ∀ x ∈ p0, x.block < W.heap.size := by obtain ⟨m, hm⟩ := h0; exact DataW.trod_lt m _ _ _ hm
  have lt1 : ∀ x ∈ p1, x.block < W.heap.size := by obtain ⟨m, hm⟩ := h1; exact DataW.trod_lt m _ _ _ hm
  have lt2 : ∀ x ∈ p2, x.block < W.heap.size := by obtain ⟨m, hm⟩ := h2; exact DataW.trod_lt m _ _ _ hm
  have lt3 : ∀ x ∈ p3, x.block < W.heap.size := by obtain ⟨m, hm⟩ := h3; exact DataW.trod_lt m _ _ _ hm
  have k0' := h0
  have k1' := h1
  have k2' := h2
  have k3' := h3
  obtain ⟨cs0, rfl, _⟩ := okWide_struct Tryz.underlying45 (hval 0 45 v0 rfl rfl)
  obtain ⟨m0, hm0⟩ := h0
  obtain ⟨y0, da0, dn0, dc0, ha0, hn0, hc0, e0, S0⟩ := open_view (cs := cs0.toList) (by simpa [Value.cells] using hm0)
  obtain rfl : cs0 = (vwC y0 da0 dn0 dc0 ha0 hn0 hc0).toArray := by rw [← e0]
  clear hm0 e0
  obtain ⟨cs1, rfl, _⟩ := okWide_struct Tryz.underlying45 (hval 1 45 v1 rfl rfl)
  obtain ⟨m1, hm1⟩ := h1
  obtain ⟨y1, da1, dn1, dc1, ha1, hn1, hc1, e1, S1⟩ := open_view (cs := cs1.toList) (by simpa [Value.cells] using hm1)
  obtain rfl : cs1 = (vwC y1 da1 dn1 dc1 ha1 hn1 hc1).toArray := by rw [← e1]
  clear hm1 e1
  obtain ⟨a2, n2, c2, rfl⟩ := okWide_slice Tryz.underlying30 (hval 2 30 v2 rfl rfl)
  obtain ⟨m2, hm2⟩ := h2
  obtain ⟨_, _, _, l2, e2, S2⟩ := open_ents (cs := [.slice a2 n2 c2]) (by simpa [Value.cells] using hm2)
  simp only [List.cons.injEq, Value.slice.injEq, and_true] at e2
  obtain ⟨rfl, rfl, rfl⟩ := e2
  clear hm2
  obtain ⟨cs3, rfl, _⟩ := okWide_struct Tryz.underlying36 (hval 3 36 v3 rfl rfl)
  obtain ⟨m3, hm3⟩ := h3
  obtain ⟨y3, ok3, e3⟩ := open_hd (cs := cs3.toList) (by simpa [Value.cells] using hm3)
  obtain rfl : cs3 = (hdC y3).toArray := by rw [← e3]
  clear hm3 e3
  have hT := tabs_of_laid hL
  clear hA0 hval0
  refine (proofs_walk y0 da0 dn0 dc0 ha0 hn0 hc0 y1 da1 dn1 dc1 ha1 hn1 hc1 a2 n2 c2 l2 y3 ok3 W hT S0 S1 S2).mono fun e W' ⟨he, bel⟩ => ?_
  subst he
  exact ⟨_, rfl, _, _, _, [], _, [], hW', trodAll_mk1 (shut_bool Tryz.underlying4 _),
    (trodAll_cons_mk (Below.trod laidOut (by kernel_rfl) (of_decide_eq_true (by kernel_rfl)) k0' bel lt0) (trodAll_cons_mk (Below.trod laidOut (by kernel_rfl) (of_decide_eq_true (by kernel_rfl)) k1' bel lt1) (trodAll_cons_mk (Below.trod laidOut (by kernel_rfl) (of_decide_eq_true (by kernel_rfl)) k2' bel lt2) (trodAll_cons_mk (Below.trod laidOut (by kernel_rfl) (of_decide_eq_true (by kernel_rfl)) k3' bel lt3) trodAll_mk0)))), rfl, bel.frame _, fun h => by cases h⟩

theorem over : Rows.ViewsProofsSaid :=
  OpenClaim.holds_of_wide 4 Tryz.f4 rfl rfl rfl rfl rfl rfl rfl ⟨rfl, rfl, rfl, rfl, rfl⟩ rfl rfl rfl rfl rfl (by kernel_rfl) Tryz.func4 (by kernel_rfl)
    (of_decide_eq_true (by kernel_rfl)) (by unfold Func.isWrapper; first | (rw [if_pos (by decide +kernel)]; kernel_rfl) | (rw [if_neg (by decide +kernel)]; exact ⟨rfl, rfl⟩))
    (fun os started H enc _ => lifted os started H enc)

theorem proved : Rows.ViewsProofsCardSaid :=
  Claim7.holds_tied_plain_at .later [] [.data, .data] true (true, "61e2f70981a8c0bfaff58b11096e9b014427882e52d813c9818ce2f80f8e3bab") false
    over (fun _ h => by cases h) (by kernel_rfl) (fun _ h => by cases h) viewsProofs_row_tie rfl ⟨rfl, rfl⟩ (by kernel_rfl) rfl
    (fun f fn hf hfn => by
      obtain rfl : f = 4 := Option.some.inj ((show Tryz.prog.funcNamed "chartroom/chartroomlaw32.ViewsProofs" = some 4 by kernel_rfl).symm.trans hf) |>.symm
      obtain rfl : fn = Tryz.f4 := (Option.some.inj (Tryz.func4.symm.trans hfn)).symm
      exact ⟨by kernel_rfl, fun j t ht => by
        rw [Tryz.params4] at ht
        have hm : t ∈ [45, 45, 30, 36] := by simpa using Array.mem_of_getElem? ht
        have hall : ([45, 45, 30, 36].all fun u => !Tryz.prog.wantsStandIn u) = true := by kernel_rfl
        exact (show Tryz.prog.wantsStandIn t = false by simpa using List.all_eq_true.1 hall t hm)⟩)
    (by kernel_rfl)
#print axioms proved
end Go.Proofs.YtiionehcmoginaaGreatDoor.lawProofs

