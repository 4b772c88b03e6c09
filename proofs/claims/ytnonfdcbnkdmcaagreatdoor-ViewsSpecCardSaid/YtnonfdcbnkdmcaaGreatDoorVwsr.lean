/- ViewsSpec: for all views and numbers the law returns true and its arguments read as before; the package variables digest.start and digest.numbers are as the program's text lays them (the tied card); no other condition. -/
import Derived.Test.YtnonfdcbnkdmcaaGreatDoorAl
import Derived.Test.YtnonfdcbnkdmcaaGreatDoorRvK
import Derived.Test.YtnonfdcbnkdmcaaGreatDoorSnq
import Derived.Test.YtnonfdcbnkdmcaaGreatDoorVwf
import Derived.Test.YtnonfdcbnkdmcaaGreatDoorCards
import Derived.Test.YtnonfdcbnkdmcaaGreatDoorTie
import Derived.SevenTiedAt
import Derived.Deep.DeepHandedRow
import Derived.Deep.DeepWitnessRowRef
namespace Go.Proofs.YtnonfdcbnkdmcaaGreatDoor
open Go.RowKit Go.Mem Go.Shelf
open Go.Sto (Ent)
open Go.Vw (Hd Fk zeroF cmpV checkV)


set_option maxRecDepth 100000 in
set_option maxHeartbeats 20000000 in
theorem vsp_walk (va : Vw.V) (da : Option Addr) (dn dc : Nat) (ha : Option Addr) (hn hc : Nat) (vb : Vw.V) (db : Option Addr) (bn bc : Nat) (hb : Option Addr) (bm bk : Nat) (st : Int) (hs : I64 st) (fo : Int) (hfo : I64 fo) (pub : Int) (hpub : I64 pub) (w : World) (HT : Tabs w)
 (HA : VMr w va da dn dc ha hn hc) (HB : VMr w vb db bn bc hb bm bk) :
 Calls Tryz.prog 5 #[.agg #[.int .i64 va.st, .int .i64 va.fo, .int .i64 va.pub, .slice da dn dc, .slice ha hn hc], .agg #[.int .i64 vb.st, .int .i64 vb.fo, .int .i64 vb.pub, .slice db bn bc, .slice hb bm bk], .int .i64 st, .int .i64 fo, .int .i64 pub] w (RetBo true w) := by
 have HA' := Lib.hid HA; have HB' := Lib.hid HB; have HT' := Lib.hid HT
 clear HA HB HT
 have hsa := Lib.hid (fun W hT => sane32_any W hT)
 have hfa := Lib.hid (fun W => few32_any va.st va.fo va.pub da dn dc ha hn hc W)
 have hfb := Lib.hid (fun W => few32_any vb.st vb.fo vb.pub db bn bc hb bm bk W)
 have hfa' : Hid (fewV dn hn = true → dn ≤ 14 ∧ hn ≤ 8) := fewV_iff'
 have hfb' : Hid (fewV bn bm = true → bn ≤ 14 ∧ bm ≤ 8) := fewV_iff'
 obtain ⟨ba, eba⟩ : ∃ x, Hid (fewV dn hn = x) := ⟨_, rfl⟩
 obtain ⟨bb, ebb⟩ : ∃ x, Hid (fewV bn bm = x) := ⟨_, rfl⟩
 rw [eba.out] at hfa hfa'
 rw [ebb.out] at hfb hfb'
 clear eba ebb
 obtain ⟨tb, htb⟩ : ∃ tb, Hid (w.heap.size = tb) := ⟨_, rfl⟩
 obtain ⟨W1, hW1⟩ : ∃ W1, W1 = (w.alloc (.cells #[.int .i64 va.st, .int .i64 va.fo, .int .i64 va.pub, .slice da dn dc, .slice ha hn hc] 50)).alloc (.cells #[.int .i64 vb.st, .int .i64 vb.fo, .int .i64 vb.pub, .slice db bn bc, .slice hb bm bk] 50) := ⟨_, rfl⟩
 have e1 : (w.alloc (.cells #[.int .i64 va.st, .int .i64 va.fo, .int .i64 va.pub, .slice da dn dc, .slice ha hn hc] 50)).heap.size = tb + 1 := by rw [World.size_alloc, htb.out]
 have hBa : Hid (Blk W1 tb 50 [.int .i64 va.st, .int .i64 va.fo, .int .i64 va.pub, .slice da dn dc, .slice ha hn hc]) := by rw [hW1, ← htb.out]; exact (Blk.new w _ _).alloc _
 have hBb : Hid (Blk W1 (tb + 1) 50 [.int .i64 vb.st, .int .i64 vb.fo, .int .i64 vb.pub, .slice db bn bc, .slice hb bm bk]) := by rw [hW1, ← e1]; exact Blk.new _ _ _
 have hbw : Hid (Below w.heap.size w W1) := by rw [hW1]; exact ((Below.refl _ w).alloc (Nat.le_refl _) _).alloc (by simp) _
 clear e1
 obtain ⟨X, hX⟩ : ∃ X, X = RetBo true w := ⟨_, rfl⟩
 have hfin : Hid (∀ W, Below w.heap.size w W → X (.returned (.bool true)) W) := fun W hb => by rw [hX]; exact ⟨rfl, hb⟩
 rw [← hX]
 clear hX
 go_enter Tryz.func5, Tryz.ntmps5
 go_upto_region 1 with fail
 rw [htb.out]
 generalize hWq : (w.alloc _).alloc _ = Wq
 obtain rfl : W1 = Wq := by rw [← hWq, hW1]
 clear hWq hW1
 go_wp2_with fail
 refine (hsa.out _ (HT'.out.below hbw.out)).mono ?_
 rintro e w2 ⟨rfl, hst⟩
 replace hBa := Lib.hid (hBa.out.below hst hBa.out.lt)
 replace hBb := Lib.hid (hBb.out.below hst hBb.out.lt)
 replace hbw := Lib.hid (hbw.out.trans (hst.mono hbw.out.size))
 clear hst
 clear hsa
 have a0 := hBa.out.at_ (i := 0) rfl
 have a1 := hBa.out.at_ (i := 1) rfl
 have a2 := hBa.out.at_ (i := 2) rfl
 have a3 := hBa.out.at_ (i := 3) rfl
 have a4 := hBa.out.at_ (i := 4) rfl
 go_wp2_with fail
 refine (hfa.out _).mono ?_
 rintro e w3 ⟨rfl, hst⟩
 replace hBa := Lib.hid (hBa.out.below hst hBa.out.lt)
 replace hBb := Lib.hid (hBb.out.below hst hBb.out.lt)
 replace hbw := Lib.hid (hbw.out.trans (hst.mono hbw.out.size))
 clear hst
 clear hfa a0 a1 a2 a3 a4
 cases ba with
 | false =>
  have hf := Lib.hid (hfin.out _ hbw.out)
  go_wp2_with fail
  exact hf.out
 | true =>
 have b0 := hBb.out.at_ (i := 0) rfl
 have b1 := hBb.out.at_ (i := 1) rfl
 have b2 := hBb.out.at_ (i := 2) rfl
 have b3 := hBb.out.at_ (i := 3) rfl
 have b4 := hBb.out.at_ (i := 4) rfl
 go_wp2_with fail
 refine (hfb.out _).mono ?_
 rintro e w4 ⟨rfl, hst⟩
 replace hBa := Lib.hid (hBa.out.below hst hBa.out.lt)
 replace hBb := Lib.hid (hBb.out.below hst hBb.out.lt)
 replace hbw := Lib.hid (hbw.out.trans (hst.mono hbw.out.size))
 clear hst
 clear hfb b0 b1 b2 b3 b4
 cases bb with
 | false =>
  have hf := Lib.hid (hfin.out _ hbw.out)
  go_wp2_with fail
  exact hf.out
 | true =>
 have hVA := Lib.hid (HA'.out.vm (Nat.le_trans (hfa'.out (by trivial)).1 (by decide)) (Nat.le_trans (hfa'.out (by trivial)).2 (by decide)))
 have hVB := Lib.hid (HB'.out.vm (Nat.le_trans (hfb'.out (by trivial)).1 (by decide)) (Nat.le_trans (hfb'.out (by trivial)).2 (by decide)))
 clear hfa' hfb' HA' HB'
 have hcm := Lib.hid (fun W hT h1 h2 => compare_any va da dn dc ha hn hc vb db bn bc hb bm bk W hT h1 h2)
 have hcr := Lib.hid (fun W h1 h2 => r32cmp_any va da dn dc ha hn hc vb db bn bc hb bm bk W h1 h2)
 have hc1 := Lib.hid (fun W hT h1 => viewCheck_any va da dn dc ha hn hc W hT h1)
 have hc2 : Hid (∀ W, VM W va da dn dc ha hn hc → Calls Tryz.prog 27 #[.agg #[.int .i64 va.st, .int .i64 va.fo, .int .i64 va.pub, .slice da dn dc, .slice ha hn hc]] W (RetI (checkV va) W)) := fun W h => r32check_any va da dn dc ha hn hc W h
 generalize checkV va = cv at *
 obtain ⟨C, eC⟩ : ∃ x, Hid (cmpV va vb = x) := ⟨_, rfl⟩
 rw [eC.out] at hcm hcr
 clear eC
 obtain ⟨g, gb⟩ := C
 have a0 := hBa.out.at_ (i := 0) rfl
 have a1 := hBa.out.at_ (i := 1) rfl
 have a2 := hBa.out.at_ (i := 2) rfl
 have a3 := hBa.out.at_ (i := 3) rfl
 have a4 := hBa.out.at_ (i := 4) rfl
 have b0 := hBb.out.at_ (i := 0) rfl
 have b1 := hBb.out.at_ (i := 1) rfl
 have b2 := hBb.out.at_ (i := 2) rfl
 have b3 := hBb.out.at_ (i := 3) rfl
 have b4 := hBb.out.at_ (i := 4) rfl
 go_wp2_with fail
 refine (hcm.out _ (HT'.out.below hbw.out) (hVA.out.below hbw.out) (hVB.out.below hbw.out)).mono ?_
 rintro e w5 ⟨fa, fn, fc, rfl, okf, hdf, n63f, hst⟩
 simp only [] at okf hdf
 have okff := Lib.hid okf
 have hDf := Lib.hid hdf
 clear a0 a1 a2 a3 a4 b0 b1 b2 b3 b4 okf hdf n63f
 replace hBa := Lib.hid (hBa.out.below hst hBa.out.lt)
 replace hBb := Lib.hid (hBb.out.below hst hBb.out.lt)
 replace hbw := Lib.hid (hbw.out.trans (hst.mono hbw.out.size))
 have hst0 := hst
 clear hst

 simp only []
 obtain ⟨qf, hqf⟩ : ∃ q, Hid (w5.heap.size = q) := ⟨_, rfl⟩
 obtain ⟨w5v, hQ⟩ := put_row (ty := 53) (Blk.new w5 53 zrF) (x := forkC g fa fn fc) (by rw [forkC_len okff.out]; rfl) (by rw [forkC_len okff.out]; exact sizeF) (forkC_one okff.out _ _ _)
 have hst : Below w5.heap.size w5 w5v := below_grown ((Below.refl _ w5).alloc (Nat.le_refl _) _) hQ.grown (by simp) (Nat.le_refl _)
 have hFf : Hid (Blk w5v qf 53 (forkC g fa fn fc)) := by rw [← hqf.out]; exact hQ.blk
 replace hDf := Lib.hid (hDf.out.below hst)

 replace hBa := Lib.hid (hBa.out.below hst hBa.out.lt)
 replace hBb := Lib.hid (hBb.out.below hst hBb.out.lt)
 replace hbw := Lib.hid (hbw.out.trans (hst.mono hbw.out.size))
 clear hst
 have hQ' := Lib.hid hQ
 rw [hqf.out] at hQ'
 have fif := infoF okff.out fa fn fc
 obtain ⟨rf, hrf⟩ : ∃ r, Hid (forkC g fa fn fc = r) := ⟨_, rfl⟩
 rw [hrf.out] at hQ' hFf fif ⊢
 clear hQ
 go_upto_region 6 with (first
  | (rw [hqf.out]
     refine wpList_store_mid (by rfl) 53 _ _ (by rfl) qf 0 rf.toArray (by rfl) (by rfl) hQ'.out.there hQ'.out.info (by simpa using hQ'.out.one) ?_
     generalize hWq : World.setCells _ _ _ _ = Wa
     obtain rfl : w5v = Wa := by rw [← hWq]; exact hQ'.out.eq
     clear hWq))
 try simp only [Act.put]
 clear hQ' hqf
 have a0 := hBa.out.at_ (i := 0) rfl
 have a1 := hBa.out.at_ (i := 1) rfl
 have a2 := hBa.out.at_ (i := 2) rfl
 have a3 := hBa.out.at_ (i := 3) rfl
 have a4 := hBa.out.at_ (i := 4) rfl
 have b0 := hBb.out.at_ (i := 0) rfl
 have b1 := hBb.out.at_ (i := 1) rfl
 have b2 := hBb.out.at_ (i := 2) rfl
 have b3 := hBb.out.at_ (i := 3) rfl
 have b4 := hBb.out.at_ (i := 4) rfl
 go_wp2_with fail
 refine (hcr.out _ (hVA.out.below hbw.out) (hVB.out.below hbw.out)).mono ?_
 rintro e w6 ⟨xa, xn, xc, rfl, okg, hdg, n63g, hst⟩
 simp only [] at okg hdg
 have okfg := Lib.hid okg
 have hDg := Lib.hid hdg
 clear a0 a1 a2 a3 a4 b0 b1 b2 b3 b4 okg hdg n63g
 replace hBa := Lib.hid (hBa.out.below hst hBa.out.lt)
 replace hBb := Lib.hid (hBb.out.below hst hBb.out.lt)
 replace hFf := Lib.hid (hFf.out.below hst hFf.out.lt)
 replace hbw := Lib.hid (hbw.out.trans (hst.mono hbw.out.size))
 have hst0 := hst
 clear hst
 replace hDf := Lib.hid (hDf.out.below hst0)
 simp only []
 obtain ⟨qg, hqg⟩ : ∃ q, Hid (w6.heap.size = q) := ⟨_, rfl⟩
 obtain ⟨w6v, hQ⟩ := put_row (ty := 53) (Blk.new w6 53 zrF) (x := forkC g xa xn xc) (by rw [forkC_len okfg.out]; rfl) (by rw [forkC_len okfg.out]; exact sizeF) (forkC_one okfg.out _ _ _)
 have hst : Below w6.heap.size w6 w6v := below_grown ((Below.refl _ w6).alloc (Nat.le_refl _) _) hQ.grown (by simp) (Nat.le_refl _)
 have hFg : Hid (Blk w6v qg 53 (forkC g xa xn xc)) := by rw [← hqg.out]; exact hQ.blk
 replace hDg := Lib.hid (hDg.out.below hst)
 replace hDf := Lib.hid (hDf.out.below hst)
 replace hBa := Lib.hid (hBa.out.below hst hBa.out.lt)
 replace hBb := Lib.hid (hBb.out.below hst hBb.out.lt)
 replace hFf := Lib.hid (hFf.out.below hst hFf.out.lt)
 replace hbw := Lib.hid (hbw.out.trans (hst.mono hbw.out.size))
 clear hst
 have hQ' := Lib.hid hQ
 rw [hqg.out] at hQ'
 have fig := infoF okfg.out xa xn xc
 obtain ⟨rg, hrg⟩ : ∃ r, Hid (forkC g xa xn xc = r) := ⟨_, rfl⟩
 rw [hrg.out] at hQ' hFg fig ⊢
 clear hQ
 go_upto_region 7 with (first
  | (rw [hqg.out]
     refine wpList_store_mid (by rfl) 53 _ _ (by rfl) qg 0 rg.toArray (by rfl) (by rfl) hQ'.out.there hQ'.out.info (by simpa using hQ'.out.one) ?_
     generalize hWq : World.setCells _ _ _ _ = Wa
     obtain rfl : w6v = Wa := by rw [← hWq]; exact hQ'.out.eq
     clear hWq))
 try simp only [Act.put]
 clear hQ' hqg
 obtain rfl : xn = fn := hDg.out.len.symm.trans hDf.out.len
 have hsf : Hid (∀ W, Below w6v.heap.size w6v W → Calls Tryz.prog 28 #[.agg rf.toArray, .agg rg.toArray] W (RetBo true W)) := fun W hW => by
  rw [← hrf.out, ← hrg.out]
  exact sameFk_any g okff.out fa xn fc xa xc W (hDf.out.below hW) (hDg.out.below hW)
 have hn1 := Lib.hid (fun W => viewNew_any st fo pub W)
 have hn2 := Lib.hid (fun W => r32new_any st fo pub W)
 have hsv : Hid (∀ W, Calls Tryz.prog 23 #[.agg #[.int .i64 st, .int .i64 fo, .int .i64 pub, .slice none 0 0, .slice none 0 0], .agg #[.int .i64 st, .int .i64 fo, .int .i64 pub, .slice none 0 0, .slice none 0 0]] W (RetBo true W)) := fun W => sameV_any ⟨st, fo, pub, [], []⟩ none 0 0 none 0 0 none 0 none 0 W ⟨hs, hfo, hpub, ds_nil _, HS.nil0 _, Nat.zero_le _⟩ ⟨hs, hfo, hpub, ds_nil _, HS.nil0 _, Nat.zero_le _⟩
 have hcc : Hid ((gb == gb) = true) := by show _ = _; simp
 clear hrf hrg hcm hcr
 refine wp_region_held_drew (S := fun wz => Below w6v.heap.size w6v wz) (by kernel_rfl) ((Below.refl _ w6v).drew) (fun hHeld => ?_)
 generalize w6v.drew = Wd at *
 refine tQ 0 rfl hHeld ?_
 refine tQ 1 rfl hHeld ?_
 refine tQ 2 rfl hHeld ?_
 refine tQ 4 rfl hHeld ?_
 refine tQ 5 rfl hHeld ?_
 refine tQ 6 rfl hHeld ?_
 refine tO 3 rfl (fun K hK => ?_)
 go_simp
 go_at_call 24
 refine (hn1.out _).mono ?_
 rintro e7 W7 ⟨rfl, hz⟩
 refine hK.out _ _ (hHeld.trans (hz.mono hHeld.size)) (fun hHeld2 => ?_)
 clear hz
 clear hHeld
 have hHeld := hHeld2
 clear hHeld2
 clear hK K
 try simp only [Act.put, sA, s0, s1]
 refine tO 7 rfl (fun K hK => ?_)
 go_simp
 go_at_call 25
 refine (hn2.out _).mono ?_
 rintro e7 W7 ⟨rfl, hz⟩
 refine hK.out _ _ (hHeld.trans (hz.mono hHeld.size)) (fun hHeld2 => ?_)
 clear hz
 clear hHeld
 have hHeld := hHeld2
 clear hHeld2
 clear hK K
 try simp only [Act.put, sA, s0, s1]
 refine tO 8 rfl (fun K hK => ?_)
 go_simp
 go_at_call 23
 refine (hsv.out _).mono ?_
 rintro e7 W7 ⟨rfl, hz⟩
 refine hK.out _ _ (hHeld.trans (hz.mono hHeld.size)) (fun hHeld2 => ?_)
 clear hz
 clear hHeld
 have hHeld := hHeld2
 clear hHeld2
 clear hK K
 try simp only [Act.put, sA, s0, s1]
 refine tQ 9 rfl hHeld ?_
 refine tG 10 (v := ?_) rfl (Or.inl ⟨by rfl, ?_⟩) hHeld ?_
 rotate_left
 · intro wz hSw
   have q0 := (hBa.out.below hSw hBa.out.lt).at_ (i := 0) rfl
   have q1 := (hBa.out.below hSw hBa.out.lt).at_ (i := 1) rfl
   have q2 := (hBa.out.below hSw hBa.out.lt).at_ (i := 2) rfl
   have q3 := (hBa.out.below hSw hBa.out.lt).at_ (i := 3) rfl
   have q4 := (hBa.out.below hSw hBa.out.lt).at_ (i := 4) rfl
   go_simp
   all_goals (with_reducible rfl)
 try simp only [Act.put, sA, s0, s1]
 refine tG 12 (v := ?_) rfl (Or.inl ⟨by rfl, ?_⟩) hHeld ?_
 rotate_left
 · intro wz hSw
   have q0 := (hBa.out.below hSw hBa.out.lt).at_ (i := 0) rfl
   have q1 := (hBa.out.below hSw hBa.out.lt).at_ (i := 1) rfl
   have q2 := (hBa.out.below hSw hBa.out.lt).at_ (i := 2) rfl
   have q3 := (hBa.out.below hSw hBa.out.lt).at_ (i := 3) rfl
   have q4 := (hBa.out.below hSw hBa.out.lt).at_ (i := 4) rfl
   go_simp
   all_goals (with_reducible rfl)
 try simp only [Act.put, sA, s0, s1]
 refine tO 11 rfl (fun K hK => ?_)
 go_simp
 go_at_call 26
 refine (hc1.out _ (HT'.out.below (hbw.out.trans (hHeld.mono hbw.out.size))) (hVA.out.below (hbw.out.trans (hHeld.mono hbw.out.size)))).mono ?_
 rintro e7 W7 ⟨rfl, hz⟩
 refine hK.out _ _ (hHeld.trans (hz.mono hHeld.size)) (fun hHeld2 => ?_)
 clear hz
 clear hHeld
 have hHeld := hHeld2
 clear hHeld2
 clear hK K
 try simp only [Act.put, sA, s0, s1]
 refine tO 13 rfl (fun K hK => ?_)
 go_simp
 go_at_call 27
 refine (hc2.out _ (hVA.out.below (hbw.out.trans (hHeld.mono hbw.out.size)))).mono ?_
 rintro e7 W7 ⟨rfl, hz⟩
 refine hK.out _ _ (hHeld.trans (hz.mono hHeld.size)) (fun hHeld2 => ?_)
 clear hz
 clear hHeld
 have hHeld := hHeld2
 clear hHeld2
 clear hK K
 try simp only [Act.put, sA, s0, s1]
 refine tQ 14 rfl hHeld ?_
 refine tQ 15 rfl hHeld ?_
 refine tQ 16 rfl hHeld ?_
 refine tY 17 rfl qf 0 (rf) (fun wz h => (hFf.out.below h hFf.out.lt).range) Tryz.underlying53 fif.out hHeld ?_
 refine tY 18 rfl qg 0 (rg) (fun wz h => (hFg.out.below h hFg.out.lt).range) Tryz.underlying53 fig.out hHeld ?_
 refine tO 19 rfl (fun K hK => ?_)
 go_simp
 go_at_call 28
 refine (hsf.out _ hHeld).mono ?_
 rintro e7 W7 ⟨rfl, hz⟩
 refine hK.out _ _ (hHeld.trans (hz.mono hHeld.size)) (fun hHeld2 => ?_)
 clear hz
 clear hHeld
 have hHeld := hHeld2
 clear hHeld2
 clear hK K
 try simp only [Act.put, sA, s0, s1]
 refine tQ 20 rfl hHeld ?_
 refine tQ 21 rfl hHeld ?_
 refine tQ 22 rfl hHeld ?_
 refine tQ 23 rfl hHeld ?_
 refine tX 24 rfl (fun wz hSw => hcc.out) hHeld ?_
 refine tQ 25 rfl hHeld ?_
 refine tQ 26 rfl hHeld ?_
 refine wpAnyH_done (by kernel_rfl) ?_ _
 have hf := Lib.hid (hfin.out _ (hbw.out.trans (hHeld.mono hbw.out.size)))
 clear hHeld
 go_wp2_with fail
 exact hf.out
end Go.Proofs.YtnonfdcbnkdmcaaGreatDoor
namespace Go.Proofs.YtnonfdcbnkdmcaaGreatDoor.lawVSpec
open Go.ChangeShapes Go.WideShapes Go.ChangeAt Go.RowKit Go.Mem
open Go.Proofs.YtnonfdcbnkdmcaaGreatDoor

set_option maxRecDepth 100000 in
theorem lifted (os : Os) (started : os.Started) (H : Type) (enc : TypeId × Value → H) :
 ReturnsInHanded {} Tryz.checked os 5 .any (fun w args => (Rows.viewsSpecSpec.pre enc Tryz.prog Tryz.f5 [] false w args ∧ laidMetH Tryz.prog laid2 w) ∧ sizedMet enc Tryz.prog Tryz.f5 (OpenSpec.ofChange Rows.viewsSpecSpec) false w args)
  (Rows.viewsSpecSpec.post enc Tryz.prog Tryz.f5 false true false false) := by
 refine returnsInHanded_of_change_and (C := Tryz.checked) (X := fun w _ => laidMetH Tryz.prog laid2 w) (fun _ _ _ hh h => h.of_heap hh) own started (by kernel_rfl) Tryz.func5
  (ChangeSpec.witness_shaped (enc := enc) (C := Tryz.checked) (os := os) (X := fun w _ => laidMetH Tryz.prog laid2 w) false (World.doorLaid Tryz.prog 400 os) #[.agg (vwC ⟨0, 0, 0, [], []⟩ none 0 0 none 0 0).toArray, .agg (vwC ⟨0, 0, 0, [], []⟩ none 0 0 none 0 0).toArray, .int .i64 0, .int .i64 0, .int .i64 0] 8 rfl (World.shaped_of_RefB (by kernel_rfl) (by kernel_rfl)) (by kernel_rfl) (by kernel_rfl) (by kernel_rfl) (door_met os _)) ?_
 intro W base args ds gs before hval0 hW _ hwt hL _
 have hval : ∀ (j : Nat) t v, Tryz.f5.params[j]? = some t → args[j]? = some v → Value.okWide Tryz.prog W .any base t v := hval0
 have hW' := hW
 obtain ⟨p, q, hA0, hV, rfl, hfz, hnd⟩ := hW
 have hA : DataW.TrodAll enc Tryz.prog W 0 (fun _ => true) true Tryz.f5.params.toList args.toList ds p := hA0
 rw [Tryz.params5] at hA hval
 obtain ⟨v0, vs0, d0, ds0, p0, q0, hargs, rfl, rfl, h0, r0⟩ := trodAll_cons hA
 obtain ⟨v1, vs1, d1, ds1, p1, q1, rfl, rfl, rfl, h1, r1⟩ := trodAll_cons r0
 obtain ⟨v2, vs2, d2, ds2, p2, q2, rfl, rfl, rfl, h2, r2⟩ := trodAll_cons r1
 obtain ⟨v3, vs3, d3, ds3, p3, q3, rfl, rfl, rfl, h3, r3⟩ := trodAll_cons r2
 obtain ⟨v4, vs4, d4, ds4, p4, q4, rfl, rfl, rfl, h4, r4⟩ := trodAll_cons r3
 obtain ⟨rfl, rfl, rfl⟩ := trodAll_nil r4
 obtain rfl : args = #[v0, v1, v2, v3, v4] := by cases args; simp_all
 obtain ⟨rfl, rfl⟩ := trodVars_none hV
 have lt0 : ∀ x ∈ p0, x.block < W.heap.size := by obtain ⟨m, hm⟩ := h0; exact DataW.trod_lt m _ _ _ hm
 have lt1 : ∀ x ∈ p1, x.block < W.heap.size := by obtain ⟨m, hm⟩ := h1; exact DataW.trod_lt m _ _ _ hm
 have lt2 : ∀ x ∈ p2, x.block < W.heap.size := by obtain ⟨m, hm⟩ := h2; exact DataW.trod_lt m _ _ _ hm
 have lt3 : ∀ x ∈ p3, x.block < W.heap.size := by obtain ⟨m, hm⟩ := h3; exact DataW.trod_lt m _ _ _ hm
 have lt4 : ∀ x ∈ p4, x.block < W.heap.size := by obtain ⟨m, hm⟩ := h4; exact DataW.trod_lt m _ _ _ hm
 have k0' := h0
 have k1' := h1
 have k2' := h2
 have k3' := h3
 have k4' := h4
 obtain ⟨cs0, rfl, _⟩ := okWide_struct Tryz.underlying50 (hval 0 50 v0 rfl rfl)
 obtain ⟨m0, hm0⟩ := h0
 obtain ⟨y0, da0, dn0, dc0, ha0, hn0, hc0, e0, S0⟩ := open_view (cs := cs0.toList) (by simpa [Value.cells] using hm0)
 obtain rfl : cs0 = (vwC y0 da0 dn0 dc0 ha0 hn0 hc0).toArray := by rw [← e0]
 clear hm0 e0
 obtain ⟨cs1, rfl, _⟩ := okWide_struct Tryz.underlying50 (hval 1 50 v1 rfl rfl)
 obtain ⟨m1, hm1⟩ := h1
 obtain ⟨y1, da1, dn1, dc1, ha1, hn1, hc1, e1, S1⟩ := open_view (cs := cs1.toList) (by simpa [Value.cells] using hm1)
 obtain rfl : cs1 = (vwC y1 da1 dn1 dc1 ha1 hn1 hc1).toArray := by rw [← e1]
 clear hm1 e1
 obtain ⟨x2, rfl⟩ := okWide_int Tryz.underlying3 (hval 2 3 v2 rfl rfl)
 obtain ⟨m2, hm2⟩ := h2
 obtain ⟨x2', e2, i2⟩ := open_int1 (cs := [.int .i64 x2]) (by simpa [Value.cells] using hm2)
 obtain rfl : x2 = x2' := by simpa using e2
 clear hm2 e2
 obtain ⟨x3, rfl⟩ := okWide_int Tryz.underlying3 (hval 3 3 v3 rfl rfl)
 obtain ⟨m3, hm3⟩ := h3
 obtain ⟨x3', e3, i3⟩ := open_int1 (cs := [.int .i64 x3]) (by simpa [Value.cells] using hm3)
 obtain rfl : x3 = x3' := by simpa using e3
 clear hm3 e3
 obtain ⟨x4, rfl⟩ := okWide_int Tryz.underlying3 (hval 4 3 v4 rfl rfl)
 obtain ⟨m4, hm4⟩ := h4
 obtain ⟨x4', e4, i4⟩ := open_int1 (cs := [.int .i64 x4]) (by simpa [Value.cells] using hm4)
 obtain rfl : x4 = x4' := by simpa using e4
 clear hm4 e4
 have hT := tabs_of_laid hL
 clear hA0 hval0
 refine (vsp_walk y0 da0 dn0 dc0 ha0 hn0 hc0 y1 da1 dn1 dc1 ha1 hn1 hc1 x2 i2 x3 i3 x4 i4 W hT S0 S1).mono fun e W' ⟨he, bel⟩ => ?_
 subst he
 exact ⟨_, rfl, _, _, _, [], _, [], hW', trodAll_mk1 (shut_bool Tryz.underlying4 _),
  (trodAll_cons_mk (Below.trod laidOut (by kernel_rfl) (of_decide_eq_true (by kernel_rfl)) k0' bel lt0) (trodAll_cons_mk (Below.trod laidOut (by kernel_rfl) (of_decide_eq_true (by kernel_rfl)) k1' bel lt1) (trodAll_cons_mk (Below.trod laidOut (by kernel_rfl) (of_decide_eq_true (by kernel_rfl)) k2' bel lt2) (trodAll_cons_mk (Below.trod laidOut (by kernel_rfl) (of_decide_eq_true (by kernel_rfl)) k3' bel lt3) (trodAll_cons_mk (Below.trod laidOut (by kernel_rfl) (of_decide_eq_true (by kernel_rfl)) k4' bel lt4) trodAll_mk0))))), rfl, bel.frame _, fun h => by cases h⟩

theorem over : Rows.ViewsSpecSaid :=
 OpenClaim.holds_of_wide 5 Tryz.f5 rfl rfl rfl rfl rfl rfl rfl ⟨rfl, rfl, rfl, rfl, rfl⟩ rfl rfl rfl rfl rfl (by kernel_rfl) Tryz.func5 (by kernel_rfl)
  (of_decide_eq_true (by kernel_rfl)) (by unfold Func.isWrapper; first | (rw [if_pos (by decide +kernel)]; kernel_rfl) | (rw [if_neg (by decide +kernel)]; exact ⟨rfl, rfl⟩))
  (fun os started H enc _ => lifted os started H enc)

theorem proved : Rows.ViewsSpecCardSaid :=
 Claim7.holds_tied_plain_at .later [] [.data, .data] true (true, "f1795c23477191a86de028924151d0d8d5cdfe28fb540b6f067f4dbe71f008fb") false
  over (fun _ h => by cases h) (by kernel_rfl) (fun _ h => by cases h) viewsSpec_row_tie rfl ⟨rfl, rfl⟩ (by kernel_rfl) rfl
  (fun f fn hf hfn => by
    obtain rfl : f = 5 := Option.some.inj ((show Tryz.prog.funcNamed "chartroom/chartroomlaw32.ViewsSpec" = some 5 by kernel_rfl).symm.trans hf) |>.symm
    obtain rfl : fn = Tryz.f5 := (Option.some.inj (Tryz.func5.symm.trans hfn)).symm
    exact ⟨by kernel_rfl, fun j t ht => by
     rw [Tryz.params5] at ht
     have hm : t ∈ [50, 50, 3, 3, 3] := by simpa using Array.mem_of_getElem? ht
     have hall : ([50, 50, 3, 3, 3].all fun u => !Tryz.prog.wantsStandIn u) = true := by kernel_rfl
     exact (show Tryz.prog.wantsStandIn t = false by simpa using List.all_eq_true.1 hall t hm)⟩)
  (by kernel_rfl)
#print axioms proved
end Go.Proofs.YtnonfdcbnkdmcaaGreatDoor.lawVSpec
