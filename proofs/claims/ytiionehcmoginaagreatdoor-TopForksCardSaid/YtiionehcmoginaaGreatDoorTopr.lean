/- TopForks: the walk -/
import Derived.Test.YtiionehcmoginaaGreatDoorLiC
import Derived.Test.YtiionehcmoginaaGreatDoorTpA
import Derived.Test.YtiionehcmoginaaGreatDoorCards
import Derived.Test.YtiionehcmoginaaGreatDoorTie
import Derived.SevenTiedAt
import Derived.Deep.DeepHandedRow
import Derived.Deep.DeepWitnessRowRef
namespace Go.Proofs.YtiionehcmoginaaGreatDoor
open Go.RowKit Go.Mem Go.Shelf
open Go.Sto (Ent St Rul forkE BdL)
open Go.Vw (Hd Sg eqH Fk newV zeroF accV cmpV proveV)

theorem _root_.Go.Sto.apart_of {s : St} {rs : List Rul} {a b f : Int} (h1 : (Sto.showL s rs a f).2 = 0) (h2 : (Sto.showL s rs b f).2 = 0) : Sto.apartL s rs a b f = (Sto.apartE (Sto.showL s rs a f).1 (Sto.showL s rs b f).1, 0) := by
 obtain ⟨h3, h4⟩ := Sto.showL_ok h1
 obtain ⟨h5, h6⟩ := Sto.showL_ok h2
 unfold Sto.apartL
 rw [if_pos h3, if_pos h5, h4, h6]
structure TopF (s : St) (f p : Int) (L1 L2 : List Ent) (k1 k2 : Hd) : Prop where
 id : 0 ≤ s.id ∧ s.id < 4
 fo : 0 ≤ f ∧ f < 16
 key : keyOk s.priv = true
 e1 : ∀ e ∈ L1, Go.Vw.entOk e = true
 e2 : ∀ e ∈ L2, Go.Vw.entOk e = true
 s1 : Sg s.id f p (L1.map (·.dig)) k1
 s2 : Sg s.id f p (L2.map (·.dig)) k2

set_option maxRecDepth 100000 in
set_option maxHeartbeats 20000000 in
theorem topforks_walk (s : St) (a : Option Addr) (n c : Nat) (ra : Option Addr) (rn rc : Nat) (rs : List Rul) (x1 : Int) (_i1 : I64 x1) (x2 : Int) (_i2 : I64 x2) (f : Int) (hf : I64 f) (w : World) (HT : Tabs w) (S0 : SVr w a n c s) (R0 : RuS w ra rn rc rs) :
 Calls Tryz.prog 3 #[.agg (liC s a n c ra rn rc).toArray, .int .i64 x1, .int .i64 x2, .int .i64 f] w (RetBo true w) := by
 have hrl := R0.len
 have hrm : rn ≤ 9223372036854775807 := Nat.le_trans (RS.le R0) (RS.max R0)
 have HT' := Lib.hid HT; have S0' := Lib.hid S0; have R0' := Lib.hid R0
 clear HT S0 R0
 obtain ⟨sb, hsb⟩ : ∃ sb, Hid (w.heap.size = sb) := ⟨_, rfl⟩
 obtain ⟨W1, hW1⟩ : ∃ W1, Hid (w.alloc (.cells #[.int .i64 s.id, .int .i64 s.priv, .slice a n c, .slice ra rn rc] 27) = W1) := ⟨_, rfl⟩
 have hB1 : Hid (Blk W1 sb 27 (liC s a n c ra rn rc)) := by rw [← hW1.out, ← hsb.out]; exact Blk.new w _ (liC s a n c ra rn rc)
 have hbw : Hid (Below w.heap.size w W1) := by rw [← hW1.out]; exact (Below.refl _ w).alloc (Nat.le_refl _) _
 obtain ⟨X, hX⟩ : ∃ X, Hid (X = RetBo true w) := ⟨_, rfl⟩
 have hfin : Hid (∀ W, Below w.heap.size w W → X (.returned (.bool true)) W) := fun W hb => by rw [hX.out]; exact ⟨rfl, hb⟩
 rw [← hX.out]
 clear hX
 obtain ⟨fq, hfq⟩ : ∃ q, Hid (fewL s rn = q) := ⟨_, rfl⟩
 have hfw := Lib.hid (fun W (hW : Below w.heap.size w W) => few31_any a n c s ra rn rc W (S0'.out.below hW) hrm)
 rw [hfq.out] at hfw
 unfold liC at *
 go_enter Tryz.func3, Tryz.ntmps3
 go_upto_region 1 with fail
 rw [hsb.out]
 generalize hWq : w.alloc _ = Wq
 obtain rfl : W1 = Wq := by rw [← hWq]; exact hW1.out.symm
 clear hWq hW1
 go_wp2_with fail
 refine (tsane_any _ (HT'.out.below hbw.out)).mono ?_
 rintro e w2 ⟨rfl, hst⟩
 replace hB1 := Lib.hid (hB1.out.below hst hB1.out.lt)
 replace hbw := Lib.hid (hbw.out.trans (hst.mono hbw.out.size))
 clear hst
 have l0 := hB1.out.at_ (i := 0) rfl
 have l1 := hB1.out.at_ (i := 1) rfl
 have l2 := hB1.out.at_ (i := 2) rfl
 have l3 := hB1.out.at_ (i := 3) rfl
 go_wp2_with fail
 refine (hfw.out _ hbw.out).mono ?_
 rintro e w3 ⟨rfl, hst⟩
 replace hB1 := Lib.hid (hB1.out.below hst hB1.out.lt)
 replace hbw := Lib.hid (hbw.out.trans (hst.mono hbw.out.size))
 clear hst l0 l1 l2 l3 hfw
 cases fq with
 | false =>
  have hf := Lib.hid (hfin.out _ hbw.out)
  clear hB1 hbw hfq
  go_wp2_with fail
  exact hf.out
 | true =>
  have hfew : few30s s = true ∧ rn ≤ 70 := by
   have := hfq.out
   unfold fewL at this
   simpa using this
  have hsv : Hid (∀ W, Below w.heap.size w W → SV (fun _ => True) W a n c s) := fun W h => (S0'.out.below h).sv hfew.1
  have hrs : Hid (∀ W, Below w.heap.size w W → RuS W ra rn rc rs) := fun W h => R0'.out.below h
  have hbd : Hid (∀ f, BdL 0 (Sto.ents s f)) := fun f => few_bd hfew.1 f
  have hrn : rn ≤ 70 := hfew.2
  clear hfq hfew S0' R0'
  subst hrl
  obtain ⟨k1, ok1, hk1, sg1⟩ := show_hk (rs := rs) (dev := x1) (hbd.out f)
  obtain ⟨k2, ok2, hk2, sg2⟩ := show_hk (rs := rs) (dev := x2) (hbd.out f)
  have hle1 := Sto.showL_len (rs := rs) (dev := x1) (hbd.out f)
  have hle2 := Sto.showL_len (rs := rs) (dev := x2) (hbd.out f)
  obtain ⟨p, hp⟩ : ∃ p, Hid (pubB 4 s.priv = p) := ⟨_, rfl⟩
  rw [hp.out] at sg1 sg2
  have hTF : Hid ((Sto.showL s rs x1 f).2 = 0 → (Sto.showL s rs x2 f).2 = 0 → TopF s f p (Sto.showL s rs x1 f).1 (Sto.showL s rs x2 f).1 k1 k2) := fun h1 h2 => by
   have hop := Sto.open_fo (Sto.fetch_open (Sto.shownL_ok (Sto.showL_ok h1).1).2.2.1)
   have hcp := Sto.chk_priv hop.1
   exact ⟨hcp.2, hop.2, hcp.1, Sto.show_ok h1, Sto.show_ok h2, sg1 h1, sg2 h2⟩
  have hpb : Hid (I64 p) := by show I64 _; rw [← hp.out]; have := pubB_bd 4 s.priv; exact ⟨by omega, by omega⟩
  have hpu : Hid (keyOk s.priv = true → ∀ W, Calls Tryz.prog 13 #[.int .i64 s.priv] W (RetII (p, 0) W)) := fun hk W => by
   have := Public_any s.priv W
   rwa [publicK_t hk, hp.out] at this
  have hapo := Lib.hid (@Sto.apart_of s rs x1 x2 f)
  have hs1 := Lib.hid (fun W (h : Below w.heap.size w W) => shk_any hk1 hf (HT'.out.below h) (hsv.out _ h) (hrs.out _ h) (hbd.out f))
  have hs2 := Lib.hid (fun W (h : Below w.heap.size w W) => shk_any hk2 hf (HT'.out.below h) (hsv.out _ h) (hrs.out _ h) (hbd.out f))
  have hap := Lib.hid (fun W (h : Below w.heap.size w W) => lapart_any a n c s ra rs.length rc rs x1 x2 f W (HT'.out.below h) (hsv.out _ h) (hrs.out _ h) (hbd.out f))
  clear hk1 hk2 sg1 sg2 hp
  generalize Sto.showL s rs x1 f = p1 at *
  generalize Sto.showL s rs x2 f = p2 at *
  generalize Sto.apartL s rs x1 x2 f = p3 at *
  obtain ⟨L1, q1⟩ := p1
  obtain ⟨L2, q2⟩ := p2
  simp only at hTF hle1 hle2 hs1 hs2 hapo
  unfold liC at hap
  have l0 := hB1.out.at_ (i := 0) rfl
  have l1 := hB1.out.at_ (i := 1) rfl
  have l2 := hB1.out.at_ (i := 2) rfl
  have l3 := hB1.out.at_ (i := 3) rfl
  go_wp2_with fail
  refine (hs1.out _ hbw.out).mono ?_
  rintro e w4 ⟨va, vc, rfl, hE, hst⟩
  clear l0 l1 l2 l3
  replace hB1 := Lib.hid (hB1.out.below hst hB1.out.lt)
  replace hbw := Lib.hid (hbw.out.trans (hst.mono hbw.out.size))
  have hE4 : Hid (ES (fun _ => True) w4 va L1.length vc L1) := hE.imp fun _ _ _ => trivial
  clear hst hE
  obtain ⟨v4, hP⟩ : ∃ V, Hid (PutR 36 (w4.alloc (.cells (zeroHd : List Value).toArray 36)) V w4.heap.size 36 (hdC k1)) := put_row (Blk.new w4 36 (zeroHd)) (by rw [hdC_len ok1, zeroHd_len]) (by rw [hdC_len ok1]; exact size37) ((hdC_r ok1).one)
  have hst := below_grown ((Below.refl _ w4).alloc (Nat.le_refl _) _) hP.out.grown (by simp) (Nat.le_refl _)
  replace hB1 := Lib.hid (hB1.out.below hst hB1.out.lt)
  replace hE4 := Lib.hid (hE4.out.below hst)
  replace hbw := Lib.hid (hbw.out.trans (hst.mono hbw.out.size))
  clear hst
  have hH4 := Lib.hid hP.out.blk
  have l0 := hB1.out.at_ (i := 0) rfl
  have l1 := hB1.out.at_ (i := 1) rfl
  have l2 := hB1.out.at_ (i := 2) rfl
  have l3 := hB1.out.at_ (i := 3) rfl
  go_wp2_with (first
   | (refine wpList_store_mid (by rfl) 36 (.tmp 10) (.tmp 41) (by rfl) w4.heap.size 0 (hdC k1).toArray (by rfl) (by rfl) hP.out.there hP.out.info (by simpa using hP.out.one) ?_
      generalize hWq : World.setCells _ _ _ _ = Wa
      obtain rfl : v4 = Wa := by rw [← hWq]; exact hP.out.eq
      clear hWq))
  clear hP
  refine (hs2.out _ hbw.out).mono ?_
  rintro e w5 ⟨vb, vd, rfl, hE, hst⟩
  clear l0 l1 l2 l3
  replace hB1 := Lib.hid (hB1.out.below hst hB1.out.lt)
  replace hE4 := Lib.hid (hE4.out.below hst)
  replace hH4 := Lib.hid (hH4.out.below hst hH4.out.lt)
  replace hbw := Lib.hid (hbw.out.trans (hst.mono hbw.out.size))
  have hE5 : Hid (ES (fun _ => True) w5 vb L2.length vd L2) := hE.imp fun _ _ _ => trivial
  clear hst hE
  obtain ⟨v5, hP⟩ : ∃ V, Hid (PutR 36 (w5.alloc (.cells (zeroHd : List Value).toArray 36)) V w5.heap.size 36 (hdC k2)) := put_row (Blk.new w5 36 (zeroHd)) (by rw [hdC_len ok2, zeroHd_len]) (by rw [hdC_len ok2]; exact size37) ((hdC_r ok2).one)
  have hst := below_grown ((Below.refl _ w5).alloc (Nat.le_refl _) _) hP.out.grown (by simp) (Nat.le_refl _)
  replace hB1 := Lib.hid (hB1.out.below hst hB1.out.lt)
  replace hE4 := Lib.hid (hE4.out.below hst)
  replace hH4 := Lib.hid (hH4.out.below hst hH4.out.lt)
  replace hE5 := Lib.hid (hE5.out.below hst)
  replace hbw := Lib.hid (hbw.out.trans (hst.mono hbw.out.size))
  clear hst
  have hH5 := Lib.hid hP.out.blk
  have l0 := hB1.out.at_ (i := 0) rfl
  have l1 := hB1.out.at_ (i := 1) rfl
  have l2 := hB1.out.at_ (i := 2) rfl
  have l3 := hB1.out.at_ (i := 3) rfl
  by_cases z1 : q1 = 0
  case neg =>
   have zq : (q1 != 0) = true := by simpa using z1
   have hf0 := Lib.hid (hfin.out _ hbw.out)
   clear hTF hapo z1
   go_wp2_with (first
    | (refine wpList_store_mid (by rfl) 36 (.tmp 13) (.tmp 49) (by rfl) w5.heap.size 0 (hdC k2).toArray (by rfl) (by rfl) hP.out.there hP.out.info (by simpa using hP.out.one) ?_
       generalize hWq : World.setCells _ _ _ _ = Wa
       obtain rfl : v5 = Wa := by rw [← hWq]; exact hP.out.eq
       clear hWq))
   exact hf0.out
  case pos =>
  by_cases z2 : q2 = 0
  case neg =>
   have zq : (q2 != 0) = true := by simpa using z2
   have hf0 := Lib.hid (hfin.out _ hbw.out)
   subst z1
   clear hTF hapo z2
   go_wp2_with (first
    | (refine wpList_store_mid (by rfl) 36 (.tmp 13) (.tmp 49) (by rfl) w5.heap.size 0 (hdC k2).toArray (by rfl) (by rfl) hP.out.there hP.out.info (by simpa using hP.out.one) ?_
       generalize hWq : World.setCells _ _ _ _ = Wa
       obtain rfl : v5 = Wa := by rw [← hWq]; exact hP.out.eq
       clear hWq))
   exact hf0.out
  case pos =>
  subst z1
  subst z2
  have hF := Lib.hid (hTF.out rfl rfl)
  have hapq := hapo.out rfl rfl
  subst hapq
  clear hTF hapo
  go_wp2_with (first
   | (refine wpList_store_mid (by rfl) 36 (.tmp 13) (.tmp 49) (by rfl) w5.heap.size 0 (hdC k2).toArray (by rfl) (by rfl) hP.out.there hP.out.info (by simpa using hP.out.one) ?_
      generalize hWq : World.setCells _ _ _ _ = Wa
      obtain rfl : v5 = Wa := by rw [← hWq]; exact hP.out.eq
      clear hWq))
  clear hP
  refine (hpu.out hF.out.key _).mono ?_
  rintro e w6 ⟨rfl, hst⟩
  clear l0 l1 l2 l3 hpu
  replace hB1 := Lib.hid (hB1.out.below hst hB1.out.lt)
  replace hE4 := Lib.hid (hE4.out.below hst)
  replace hH4 := Lib.hid (hH4.out.below hst hH4.out.lt)
  replace hE5 := Lib.hid (hE5.out.below hst)
  replace hH5 := Lib.hid (hH5.out.below hst hH5.out.lt)
  replace hbw := Lib.hid (hbw.out.trans (hst.mono hbw.out.size))
  clear hst
  have l0 := hB1.out.at_ (i := 0) rfl
  have l1 := hB1.out.at_ (i := 1) rfl
  have l2 := hB1.out.at_ (i := 2) rfl
  have l3 := hB1.out.at_ (i := 3) rfl
  go_wp2_with fail
  refine (viewNew_any s.id f p _).mono ?_
  rintro e w7 ⟨rfl, hst⟩
  clear l0 l1 l2 l3
  replace hB1 := Lib.hid (hB1.out.below hst hB1.out.lt)
  replace hE4 := Lib.hid (hE4.out.below hst)
  replace hH4 := Lib.hid (hH4.out.below hst hH4.out.lt)
  replace hE5 := Lib.hid (hE5.out.below hst)
  replace hH5 := Lib.hid (hH5.out.below hst hH5.out.lt)
  replace hbw := Lib.hid (hbw.out.trans (hst.mono hbw.out.size))
  clear hst
  obtain ⟨v7, hP⟩ : ∃ V, Hid (PutR 45 (w7.alloc (.cells (zrV : List Value).toArray 45)) V w7.heap.size 45 ([.int .i64 s.id, .int .i64 f, .int .i64 p, .slice none 0 0, .slice none 0 0])) := put_row (Blk.new w7 45 (zrV)) rfl (sizeVw) (view_one _ _ _ _ _ _ _ _ _)
  have hst := below_grown ((Below.refl _ w7).alloc (Nat.le_refl _) _) hP.out.grown (by simp) (Nat.le_refl _)
  replace hB1 := Lib.hid (hB1.out.below hst hB1.out.lt)
  replace hE4 := Lib.hid (hE4.out.below hst)
  replace hH4 := Lib.hid (hH4.out.below hst hH4.out.lt)
  replace hE5 := Lib.hid (hE5.out.below hst)
  replace hH5 := Lib.hid (hH5.out.below hst hH5.out.lt)
  replace hbw := Lib.hid (hbw.out.trans (hst.mono hbw.out.size))
  clear hst
  have hB17 := Lib.hid hP.out.blk
  have b0 := hB17.out.at_ (i := 0) rfl
  have b1 := hB17.out.at_ (i := 1) rfl
  have b2 := hB17.out.at_ (i := 2) rfl
  have b3 := hB17.out.at_ (i := 3) rfl
  have b4 := hB17.out.at_ (i := 4) rfl
  have hri := infoHd ok1
  have hrg := Lib.hid hH4.out.range
  go_wp2_with (first
   | (refine wpList_store_mid (by rfl) 45 (.tmp 17) (.tmp 69) (by rfl) w7.heap.size 0 ([.int .i64 s.id, .int .i64 f, .int .i64 p, .slice none 0 0, .slice none 0 0]).toArray (by rfl) (by rfl) hP.out.there hP.out.info (by simpa using hP.out.one) ?_
      generalize hWq : World.setCells _ _ _ _ = Wa
      obtain rfl : v7 = Wa := by rw [← hWq]; exact hP.out.eq
      clear hWq)
       | (refine wpList_load_g (by rfl) 36 _ (by rfl) w4.heap.size 0 (by rfl) (hdC k1) _ hrg.out Tryz.underlying36 (by rfl) hri.out ?_))
  clear b0 b1 b2 b3 b4 hP hrg hri
  have hA8 := accept_any (newV s.id f p) none 0 0 none 0 0 va L1.length vc L1 k1 ok1 _ (HT'.out.below hbw.out) ⟨⟨by have := hF.out.id.1; show _ ≤ s.id; omega, by have := hF.out.id.2; show s.id ≤ _; omega⟩, hf, hpb.out, ds_nil _, HS.nil0 _, Nat.zero_le _⟩ hE4.out (by decide)
  rw [Go.Vw.acc_new hF.out.id hF.out.fo rfl hF.out.e1 hF.out.s1] at hA8
  refine hA8.mono ?_
  rintro e w8 ⟨xa, xn, xc, ya, yn, yc, fa, fn, fc, rfl, hVM, _, _, _, hst⟩
  obtain rfl : yn = 1 := hVM.hs.rs.len.symm
  clear hA8
  replace hB1 := Lib.hid (hB1.out.below hst hB1.out.lt)
  replace hE4 := Lib.hid (hE4.out.below hst)
  replace hH4 := Lib.hid (hH4.out.below hst hH4.out.lt)
  replace hE5 := Lib.hid (hE5.out.below hst)
  replace hH5 := Lib.hid (hH5.out.below hst hH5.out.lt)
  replace hB17 := Lib.hid (hB17.out.below hst hB17.out.lt)
  replace hbw := Lib.hid (hbw.out.trans (hst.mono hbw.out.size))
  clear hst
  have hM18 := Lib.hid hVM
  clear hVM
  have al : Below w8.heap.size w8 ((w8.alloc (.cells (zrV : List Value).toArray 45)).alloc (.cells (zrF : List Value).toArray 48)) := ((Below.refl _ w8).alloc (Nat.le_refl _) _).alloc (by simp) _
  have bV0 := (Blk.new w8 45 zrV).alloc (.cells (zrF : List Value).toArray 48)
  have bF0 := Blk.new (w8.alloc (.cells (zrV : List Value).toArray 45)) 48 zrF
  rw [World.size_alloc] at bF0
  obtain ⟨v8a, hPv⟩ : ∃ V, Hid (PutR 45 ((w8.alloc (.cells (zrV : List Value).toArray 45)).alloc (.cells (zrF : List Value).toArray 48)) V w8.heap.size 45 ([.int .i64 s.id, .int .i64 f, .int .i64 p, .slice xa xn xc, .slice ya 1 yc])) := put_row bV0 rfl sizeVw (view_one _ _ _ _ _ _ _ _ _)
  have bF1 := bF0.grown hPv.out.grown (fun e => by injection e with e; omega)
  obtain ⟨v8, hPf⟩ : ∃ V, Hid (PutR 48 v8a V (w8.heap.size + 1) 48 (forkC zeroF fa fn fc)) := put_row bF1 (by rw [forkC_len okF0]; rfl) (by rw [forkC_len okF0]; exact sizeF) (forkC_one okF0 _ _ _)
  have hst := below_grown (below_grown al hPv.out.grown al.size (Nat.le_refl _)) hPf.out.grown (Nat.le_trans al.size hPv.out.grown.size) (Nat.le_succ _)
  have hB18 := Lib.hid (hPv.out.blk.grown hPf.out.grown (fun e => by injection e with e; omega))
  clear al bV0 bF0 bF1
  replace hB1 := Lib.hid (hB1.out.below hst hB1.out.lt)
  replace hE4 := Lib.hid (hE4.out.below hst)
  replace hH4 := Lib.hid (hH4.out.below hst hH4.out.lt)
  replace hE5 := Lib.hid (hE5.out.below hst)
  replace hH5 := Lib.hid (hH5.out.below hst hH5.out.lt)
  replace hB17 := Lib.hid (hB17.out.below hst hB17.out.lt)
  replace hM18 := Lib.hid (hM18.out.below hst)
  replace hbw := Lib.hid (hbw.out.trans (hst.mono hbw.out.size))
  clear hst
  have b0 := hB17.out.at_ (i := 0) rfl
  have b1 := hB17.out.at_ (i := 1) rfl
  have b2 := hB17.out.at_ (i := 2) rfl
  have b3 := hB17.out.at_ (i := 3) rfl
  have b4 := hB17.out.at_ (i := 4) rfl
  have hri := infoHd ok2
  have hrg := Lib.hid hH5.out.range
  go_wp2_with (first
   | (refine wpList_store_mid (by rfl) 45 (.tmp 18) (.tmp 75) (by rfl) w8.heap.size 0 ([.int .i64 s.id, .int .i64 f, .int .i64 p, .slice xa xn xc, .slice ya 1 yc]).toArray (by rfl) (by rfl) hPv.out.there hPv.out.info (by simpa using hPv.out.one) ?_
      generalize hWq : World.setCells _ _ _ _ = Wa
      obtain rfl : v8a = Wa := by rw [← hWq]; exact hPv.out.eq
      clear hWq)
       | (refine wpList_store_mid (by rfl) 48 (.tmp 19) (.tmp 76) (by rfl) (w8.heap.size + 1) 0 ((forkC zeroF fa fn fc)).toArray (by rfl) (by rfl) hPf.out.there hPf.out.info (by simpa using hPf.out.one) ?_
          generalize hWq : World.setCells _ _ _ _ = Wa
          obtain rfl : v8 = Wa := by rw [← hWq]; exact hPf.out.eq
          clear hWq)
       | (refine wpList_load_g (by rfl) 36 _ (by rfl) w5.heap.size 0 (by rfl) (hdC k2) _ hrg.out Tryz.underlying36 (by rfl) hri.out ?_))
  clear b0 b1 b2 b3 b4 hPv hPf hrg hri
  have hA9 := accept_any (newV s.id f p) none 0 0 none 0 0 vb L2.length vd L2 k2 ok2 _ (HT'.out.below hbw.out) ⟨⟨by have := hF.out.id.1; show _ ≤ s.id; omega, by have := hF.out.id.2; show s.id ≤ _; omega⟩, hf, hpb.out, ds_nil _, HS.nil0 _, Nat.zero_le _⟩ hE5.out (by decide)
  rw [Go.Vw.acc_new hF.out.id hF.out.fo rfl hF.out.e2 hF.out.s2] at hA9
  refine hA9.mono ?_
  rintro e w9 ⟨za, zn, zc, ua, yn, uc, ga, gn, gc, rfl, hVM, _, _, _, hst⟩
  obtain rfl : yn = 1 := hVM.hs.rs.len.symm
  clear hA9
  replace hB1 := Lib.hid (hB1.out.below hst hB1.out.lt)
  replace hE4 := Lib.hid (hE4.out.below hst)
  replace hH4 := Lib.hid (hH4.out.below hst hH4.out.lt)
  replace hE5 := Lib.hid (hE5.out.below hst)
  replace hH5 := Lib.hid (hH5.out.below hst hH5.out.lt)
  replace hB17 := Lib.hid (hB17.out.below hst hB17.out.lt)
  replace hM18 := Lib.hid (hM18.out.below hst)
  replace hB18 := Lib.hid (hB18.out.below hst hB18.out.lt)
  replace hbw := Lib.hid (hbw.out.trans (hst.mono hbw.out.size))
  clear hst
  have hM21 := Lib.hid hVM
  clear hVM
  have al : Below w9.heap.size w9 ((w9.alloc (.cells (zrV : List Value).toArray 45)).alloc (.cells (zrF : List Value).toArray 48)) := ((Below.refl _ w9).alloc (Nat.le_refl _) _).alloc (by simp) _
  have bV0 := (Blk.new w9 45 zrV).alloc (.cells (zrF : List Value).toArray 48)
  have bF0 := Blk.new (w9.alloc (.cells (zrV : List Value).toArray 45)) 48 zrF
  rw [World.size_alloc] at bF0
  obtain ⟨v9a, hPv⟩ : ∃ V, Hid (PutR 45 ((w9.alloc (.cells (zrV : List Value).toArray 45)).alloc (.cells (zrF : List Value).toArray 48)) V w9.heap.size 45 ([.int .i64 s.id, .int .i64 f, .int .i64 p, .slice za zn zc, .slice ua 1 uc])) := put_row bV0 rfl sizeVw (view_one _ _ _ _ _ _ _ _ _)
  have bF1 := bF0.grown hPv.out.grown (fun e => by injection e with e; omega)
  obtain ⟨v9, hPf⟩ : ∃ V, Hid (PutR 48 v9a V (w9.heap.size + 1) 48 (forkC zeroF ga gn gc)) := put_row bF1 (by rw [forkC_len okF0]; rfl) (by rw [forkC_len okF0]; exact sizeF) (forkC_one okF0 _ _ _)
  have hst := below_grown (below_grown al hPv.out.grown al.size (Nat.le_refl _)) hPf.out.grown (Nat.le_trans al.size hPv.out.grown.size) (Nat.le_succ _)
  have hB21 := Lib.hid (hPv.out.blk.grown hPf.out.grown (fun e => by injection e with e; omega))
  clear al bV0 bF0 bF1
  replace hB1 := Lib.hid (hB1.out.below hst hB1.out.lt)
  replace hE4 := Lib.hid (hE4.out.below hst)
  replace hH4 := Lib.hid (hH4.out.below hst hH4.out.lt)
  replace hE5 := Lib.hid (hE5.out.below hst)
  replace hH5 := Lib.hid (hH5.out.below hst hH5.out.lt)
  replace hB17 := Lib.hid (hB17.out.below hst hB17.out.lt)
  replace hM18 := Lib.hid (hM18.out.below hst)
  replace hB18 := Lib.hid (hB18.out.below hst hB18.out.lt)
  replace hM21 := Lib.hid (hM21.out.below hst)
  replace hbw := Lib.hid (hbw.out.trans (hst.mono hbw.out.size))
  clear hst
  have l0 := hB1.out.at_ (i := 0) rfl
  have l1 := hB1.out.at_ (i := 1) rfl
  have l2 := hB1.out.at_ (i := 2) rfl
  have l3 := hB1.out.at_ (i := 3) rfl
  go_wp2_with (first
   | (refine wpList_store_mid (by rfl) 45 (.tmp 21) (.tmp 83) (by rfl) w9.heap.size 0 ([.int .i64 s.id, .int .i64 f, .int .i64 p, .slice za zn zc, .slice ua 1 uc]).toArray (by rfl) (by rfl) hPv.out.there hPv.out.info (by simpa using hPv.out.one) ?_
      generalize hWq : World.setCells _ _ _ _ = Wa
      obtain rfl : v9a = Wa := by rw [← hWq]; exact hPv.out.eq
      clear hWq)
       | (refine wpList_store_mid (by rfl) 48 (.tmp 22) (.tmp 84) (by rfl) (w9.heap.size + 1) 0 ((forkC zeroF ga gn gc)).toArray (by rfl) (by rfl) hPf.out.there hPf.out.info (by simpa using hPf.out.one) ?_
          generalize hWq : World.setCells _ _ _ _ = Wa
          obtain rfl : v9 = Wa := by rw [← hWq]; exact hPf.out.eq
          clear hWq))
  clear hPv hPf l0 l1 l2 l3
  refine (hap.out _ hbw.out).mono ?_
  rintro e w10 ⟨rfl, hst⟩
  clear hap
  replace hB1 := Lib.hid (hB1.out.below hst hB1.out.lt)
  replace hE4 := Lib.hid (hE4.out.below hst)
  replace hH4 := Lib.hid (hH4.out.below hst hH4.out.lt)
  replace hE5 := Lib.hid (hE5.out.below hst)
  replace hH5 := Lib.hid (hH5.out.below hst hH5.out.lt)
  replace hB17 := Lib.hid (hB17.out.below hst hB17.out.lt)
  replace hM18 := Lib.hid (hM18.out.below hst)
  replace hB18 := Lib.hid (hB18.out.below hst hB18.out.lt)
  replace hM21 := Lib.hid (hM21.out.below hst)
  replace hB21 := Lib.hid (hB21.out.below hst hB21.out.lt)
  replace hbw := Lib.hid (hbw.out.trans (hst.mono hbw.out.size))
  clear hst
  have hcA := Lib.hid (fun W hT h1 h2 => compare_any (⟨s.id, f, p, L1.map (·.dig), [k1]⟩ : Go.Vw.V) xa xn xc ya 1 yc (⟨s.id, f, p, L2.map (·.dig), [k2]⟩ : Go.Vw.V) za zn zc ua 1 uc W hT h1 h2)
  have hcB := Lib.hid (fun W hT h1 h2 => compare_any (⟨s.id, f, p, L2.map (·.dig), [k2]⟩ : Go.Vw.V) za zn zc ua 1 uc (⟨s.id, f, p, L1.map (·.dig), [k1]⟩ : Go.Vw.V) xa xn xc ya 1 yc W hT h1 h2)
  have c1 := Lib.hid (Go.Vw.cmp_two hF.out.id hF.out.fo hF.out.s1 hF.out.s2)
  have c2 := Lib.hid (Go.Vw.cmp_two hF.out.id hF.out.fo hF.out.s2 hF.out.s1)
  have p1 := Lib.hid (Go.Vw.cmp_proofs (a := (⟨s.id, f, p, L1.map (·.dig), [k1]⟩ : Go.Vw.V)) (b := (⟨s.id, f, p, L2.map (·.dig), [k2]⟩ : Go.Vw.V)))
  have p2 := Lib.hid (Go.Vw.cmp_proofs (a := (⟨s.id, f, p, L2.map (·.dig), [k2]⟩ : Go.Vw.V)) (b := (⟨s.id, f, p, L1.map (·.dig), [k1]⟩ : Go.Vw.V)))
  rw [Go.Vw.differ_symm] at c2
  have htl := Sto.top_law f L1 L2
  have hco := Lib.hid (fun W (h : Below w.heap.size w W) h1 h2 => collide_any f hf va L1.length vc L1 vb L2.length vd L2 W (HT'.out.below h) h1 h2)
  generalize Go.Vw.differ f (L1.map (·.dig)) (L2.map (·.dig)) = d at *
  generalize Sto.collG (chainD f []) (chainD f []) (L1.map (·.dig)) (L2.map (·.dig)) = g at *
  generalize Sto.apartE L1 L2 = ap at *
  obtain ⟨C1, hC1⟩ : ∃ C, Hid (cmpV (⟨s.id, f, p, L1.map (·.dig), [k1]⟩ : Go.Vw.V) (⟨s.id, f, p, L2.map (·.dig), [k2]⟩ : Go.Vw.V) = C) := ⟨_, rfl⟩
  obtain ⟨C2, hC2⟩ : ∃ C, Hid (cmpV (⟨s.id, f, p, L2.map (·.dig), [k2]⟩ : Go.Vw.V) (⟨s.id, f, p, L1.map (·.dig), [k1]⟩ : Go.Vw.V) = C) := ⟨_, rfl⟩
  rw [hC1.out] at hcA c1 p1
  rw [hC2.out] at hcB c2 p2
  clear hC1 hC2
  obtain ⟨f1, y1⟩ := C1
  obtain ⟨f2, y2⟩ := C2
  have c1' := c1.out
  have c2' := c2.out
  simp only [] at c1' c2'
  subst y1 y2
  clear c1 c2
  simp only [] at hcA hcB p1 p2
  have a0 := hB18.out.at_ (i := 0) rfl
  have a1 := hB18.out.at_ (i := 1) rfl
  have a2 := hB18.out.at_ (i := 2) rfl
  have a3 := hB18.out.at_ (i := 3) rfl
  have a4 := hB18.out.at_ (i := 4) rfl
  have b0 := hB21.out.at_ (i := 0) rfl
  have b1 := hB21.out.at_ (i := 1) rfl
  have b2 := hB21.out.at_ (i := 2) rfl
  have b3 := hB21.out.at_ (i := 3) rfl
  have b4 := hB21.out.at_ (i := 4) rfl
  go_wp2_with fail
  refine (hcA.out _ (HT'.out.below hbw.out) hM18.out hM21.out).mono ?_
  rintro e w11 ⟨ra, rn, rc, rfl, okr0, hd0, r63, hst⟩
  simp only [] at okr0 hd0
  have okr := Lib.hid okr0
  have br := Lib.hid r63
  clear hcA okr0 r63 a0 a1 a2 a3 a4 b0 b1 b2 b3 b4
  replace hB1 := Lib.hid (hB1.out.below hst hB1.out.lt)
  replace hE4 := Lib.hid (hE4.out.below hst)
  replace hH4 := Lib.hid (hH4.out.below hst hH4.out.lt)
  replace hE5 := Lib.hid (hE5.out.below hst)
  replace hH5 := Lib.hid (hH5.out.below hst hH5.out.lt)
  replace hB17 := Lib.hid (hB17.out.below hst hB17.out.lt)
  replace hM18 := Lib.hid (hM18.out.below hst)
  replace hB18 := Lib.hid (hB18.out.below hst hB18.out.lt)
  replace hM21 := Lib.hid (hM21.out.below hst)
  replace hB21 := Lib.hid (hB21.out.below hst hB21.out.lt)
  replace hbw := Lib.hid (hbw.out.trans (hst.mono hbw.out.size))
  clear hst
  have hDr := Lib.hid hd0
  clear hd0
  obtain ⟨v11, hP⟩ : ∃ V, Hid (PutR 48 (w11.alloc (.cells (zrF : List Value).toArray 48)) V w11.heap.size 48 (forkC f1 ra rn rc)) := put_row (Blk.new w11 48 (zrF)) (by rw [forkC_len okr.out]; rfl) (by rw [forkC_len okr.out]; exact sizeF) (forkC_one okr.out _ _ _)
  have hst := below_grown ((Below.refl _ w11).alloc (Nat.le_refl _) _) hP.out.grown (by simp) (Nat.le_refl _)
  replace hB1 := Lib.hid (hB1.out.below hst hB1.out.lt)
  replace hE4 := Lib.hid (hE4.out.below hst)
  replace hH4 := Lib.hid (hH4.out.below hst hH4.out.lt)
  replace hE5 := Lib.hid (hE5.out.below hst)
  replace hH5 := Lib.hid (hH5.out.below hst hH5.out.lt)
  replace hB17 := Lib.hid (hB17.out.below hst hB17.out.lt)
  replace hM18 := Lib.hid (hM18.out.below hst)
  replace hB18 := Lib.hid (hB18.out.below hst hB18.out.lt)
  replace hM21 := Lib.hid (hM21.out.below hst)
  replace hB21 := Lib.hid (hB21.out.below hst hB21.out.lt)
  replace hDr := Lib.hid (hDr.out.below hst)
  replace hbw := Lib.hid (hbw.out.trans (hst.mono hbw.out.size))
  clear hst
  have hB26 := Lib.hid hP.out.blk
  have a0 := hB18.out.at_ (i := 0) rfl
  have a1 := hB18.out.at_ (i := 1) rfl
  have a2 := hB18.out.at_ (i := 2) rfl
  have a3 := hB18.out.at_ (i := 3) rfl
  have a4 := hB18.out.at_ (i := 4) rfl
  have b0 := hB21.out.at_ (i := 0) rfl
  have b1 := hB21.out.at_ (i := 1) rfl
  have b2 := hB21.out.at_ (i := 2) rfl
  have b3 := hB21.out.at_ (i := 3) rfl
  have b4 := hB21.out.at_ (i := 4) rfl
  go_wp2_with (first
   | (refine wpList_store_mid (by rfl) 48 (.tmp 26) (.tmp 112) (by rfl) w11.heap.size 0 ((forkC f1 ra rn rc)).toArray (by rfl) (by rfl) hP.out.there hP.out.info (by simpa using hP.out.one) ?_
      generalize hWq : World.setCells _ _ _ _ = Wa
      obtain rfl : v11 = Wa := by rw [← hWq]; exact hP.out.eq
      clear hWq))
  clear hP
  refine (hcB.out _ (HT'.out.below hbw.out) hM21.out hM18.out).mono ?_
  rintro e w12 ⟨ta, tn, tc, rfl, okt0, hd0, t63, hst⟩
  simp only [] at okt0 hd0
  have okt := Lib.hid okt0
  have bt := Lib.hid t63
  clear hcB okt0 t63 a0 a1 a2 a3 a4 b0 b1 b2 b3 b4
  replace hB1 := Lib.hid (hB1.out.below hst hB1.out.lt)
  replace hE4 := Lib.hid (hE4.out.below hst)
  replace hH4 := Lib.hid (hH4.out.below hst hH4.out.lt)
  replace hE5 := Lib.hid (hE5.out.below hst)
  replace hH5 := Lib.hid (hH5.out.below hst hH5.out.lt)
  replace hB17 := Lib.hid (hB17.out.below hst hB17.out.lt)
  replace hM18 := Lib.hid (hM18.out.below hst)
  replace hB18 := Lib.hid (hB18.out.below hst hB18.out.lt)
  replace hM21 := Lib.hid (hM21.out.below hst)
  replace hB21 := Lib.hid (hB21.out.below hst hB21.out.lt)
  replace hDr := Lib.hid (hDr.out.below hst)
  replace hB26 := Lib.hid (hB26.out.below hst hB26.out.lt)
  replace hbw := Lib.hid (hbw.out.trans (hst.mono hbw.out.size))
  clear hst
  have hDt := Lib.hid hd0
  clear hd0
  obtain ⟨v12, hP⟩ : ∃ V, Hid (PutR 48 (w12.alloc (.cells (zrF : List Value).toArray 48)) V w12.heap.size 48 (forkC f2 ta tn tc)) := put_row (Blk.new w12 48 (zrF)) (by rw [forkC_len okt.out]; rfl) (by rw [forkC_len okt.out]; exact sizeF) (forkC_one okt.out _ _ _)
  have hst := below_grown ((Below.refl _ w12).alloc (Nat.le_refl _) _) hP.out.grown (by simp) (Nat.le_refl _)
  replace hB1 := Lib.hid (hB1.out.below hst hB1.out.lt)
  replace hE4 := Lib.hid (hE4.out.below hst)
  replace hH4 := Lib.hid (hH4.out.below hst hH4.out.lt)
  replace hE5 := Lib.hid (hE5.out.below hst)
  replace hH5 := Lib.hid (hH5.out.below hst hH5.out.lt)
  replace hB17 := Lib.hid (hB17.out.below hst hB17.out.lt)
  replace hM18 := Lib.hid (hM18.out.below hst)
  replace hB18 := Lib.hid (hB18.out.below hst hB18.out.lt)
  replace hM21 := Lib.hid (hM21.out.below hst)
  replace hB21 := Lib.hid (hB21.out.below hst hB21.out.lt)
  replace hDr := Lib.hid (hDr.out.below hst)
  replace hB26 := Lib.hid (hB26.out.below hst hB26.out.lt)
  replace hDt := Lib.hid (hDt.out.below hst)
  replace hbw := Lib.hid (hbw.out.trans (hst.mono hbw.out.size))
  clear hst
  have hB28 := Lib.hid hP.out.blk
  go_upto_region 18 with (first
   | (refine wpList_store_mid (by rfl) 48 (.tmp 28) (.tmp 118) (by rfl) w12.heap.size 0 ((forkC f2 ta tn tc)).toArray (by rfl) (by rfl) hP.out.there hP.out.info (by simpa using hP.out.one) ?_
      generalize hWq : World.setCells _ _ _ _ = Wa
      obtain rfl : v12 = Wa := by rw [← hWq]; exact hP.out.eq
      clear hWq))
  clear hP
  cases d with
  | false =>
   clear p1 p2
   cases ap with
   | false =>
    have hf0 := Lib.hid (hfin.out _ hbw.out)
    go_wp2_with fail
    exact hf0.out
   | true =>
    have hg : g = true := by simpa using htl
    subst hg
    clear htl
    go_wp2_with fail
    refine (hco.out _ hbw.out hE4.out hE5.out).mono ?_
    rintro e w13 ⟨rfl, hst⟩
    have hf0 := Lib.hid (hfin.out _ (hbw.out.trans (hst.mono hbw.out.size)))
    go_wp2_with fail
    exact hf0.out
  | true =>
   have hat : ap = true := by
    rcases (by simpa using htl : ap = true ∨ ap = true ∧ g = true) with h | h
    · exact h
    · exact h.1
   subst hat
   have q1 := Lib.hid (p1.out (by trivial))
   have q2 := Lib.hid (p2.out (by trivial))
   clear p1 p2 htl hco
   have hfr := Lib.hid hB26.out.range
   have hfi := infoF okr.out ra rn rc
   go_wp2_with (first
    | (refine wpList_load_g (by rfl) 48 _ (by rfl) w11.heap.size 0 (by rfl) (forkC f1 ra rn rc) _ hfr.out Tryz.underlying48 (by rfl) hfi.out ?_))
   have hq := prove_any p hpb.out f1 okr.out ra rn rc _ (HT'.out.below hbw.out) hDr.out br.out
   rw [q1.out] at hq
   refine hq.mono ?_
   rintro e w13 ⟨rfl, hst⟩
   clear hq hfr hfi
   replace hB1 := Lib.hid (hB1.out.below hst hB1.out.lt)
   replace hE4 := Lib.hid (hE4.out.below hst)
   replace hH4 := Lib.hid (hH4.out.below hst hH4.out.lt)
   replace hE5 := Lib.hid (hE5.out.below hst)
   replace hH5 := Lib.hid (hH5.out.below hst hH5.out.lt)
   replace hB17 := Lib.hid (hB17.out.below hst hB17.out.lt)
   replace hM18 := Lib.hid (hM18.out.below hst)
   replace hB18 := Lib.hid (hB18.out.below hst hB18.out.lt)
   replace hM21 := Lib.hid (hM21.out.below hst)
   replace hB21 := Lib.hid (hB21.out.below hst hB21.out.lt)
   replace hDr := Lib.hid (hDr.out.below hst)
   replace hB26 := Lib.hid (hB26.out.below hst hB26.out.lt)
   replace hDt := Lib.hid (hDt.out.below hst)
   replace hB28 := Lib.hid (hB28.out.below hst hB28.out.lt)
   replace hbw := Lib.hid (hbw.out.trans (hst.mono hbw.out.size))
   clear hst
   have hfr := Lib.hid hB28.out.range
   have hfi := infoF okt.out ta tn tc
   go_wp2_with (first
    | (refine wpList_load_g (by rfl) 48 _ (by rfl) w12.heap.size 0 (by rfl) (forkC f2 ta tn tc) _ hfr.out Tryz.underlying48 (by rfl) hfi.out ?_))
   have hq := prove_any p hpb.out f2 okt.out ta tn tc _ (HT'.out.below hbw.out) hDt.out bt.out
   rw [q2.out] at hq
   refine hq.mono ?_
   rintro e w14 ⟨rfl, hst⟩
   clear hq hfr hfi
   replace hB1 := Lib.hid (hB1.out.below hst hB1.out.lt)
   replace hE4 := Lib.hid (hE4.out.below hst)
   replace hH4 := Lib.hid (hH4.out.below hst hH4.out.lt)
   replace hE5 := Lib.hid (hE5.out.below hst)
   replace hH5 := Lib.hid (hH5.out.below hst hH5.out.lt)
   replace hB17 := Lib.hid (hB17.out.below hst hB17.out.lt)
   replace hM18 := Lib.hid (hM18.out.below hst)
   replace hB18 := Lib.hid (hB18.out.below hst hB18.out.lt)
   replace hM21 := Lib.hid (hM21.out.below hst)
   replace hB21 := Lib.hid (hB21.out.below hst hB21.out.lt)
   replace hDr := Lib.hid (hDr.out.below hst)
   replace hB26 := Lib.hid (hB26.out.below hst hB26.out.lt)
   replace hDt := Lib.hid (hDt.out.below hst)
   replace hB28 := Lib.hid (hB28.out.below hst hB28.out.lt)
   replace hbw := Lib.hid (hbw.out.trans (hst.mono hbw.out.size))
   clear hst
   have hf0 := Lib.hid (hfin.out _ hbw.out)
   go_wp2_with fail
   exact hf0.out
end Go.Proofs.YtiionehcmoginaaGreatDoor
namespace Go.Proofs.YtiionehcmoginaaGreatDoor.lawTop
open Go.ChangeShapes Go.WideShapes Go.ChangeAt Go.RowKit Go.Mem
open Go.Proofs.YtiionehcmoginaaGreatDoor

set_option maxRecDepth 100000 in
theorem lifted (os : Os) (started : os.Started) (H : Type) (enc : TypeId × Value → H) :
 ReturnsInHanded {} Tryz.checked os 3 .any (fun w args => (Rows.topForksSpec.pre enc Tryz.prog Tryz.f3 [] false w args ∧ laidMetH Tryz.prog laid2 w) ∧ sizedMet enc Tryz.prog Tryz.f3 (OpenSpec.ofChange Rows.topForksSpec) false w args)
  (Rows.topForksSpec.post enc Tryz.prog Tryz.f3 false true false false) := by
 refine returnsInHanded_of_change_and (C := Tryz.checked) (X := fun w _ => laidMetH Tryz.prog laid2 w) (fun _ _ _ hh h => h.of_heap hh) own started (by kernel_rfl) Tryz.func3
  (ChangeSpec.witness_shaped (enc := enc) (C := Tryz.checked) (os := os) (X := fun w _ => laidMetH Tryz.prog laid2 w) false (World.doorLaid Tryz.prog 400 os) #[.agg (liC ⟨0, 0, []⟩ none 0 0 none 0 0).toArray, .int .i64 0, .int .i64 0, .int .i64 0] 8 rfl (World.shaped_of_RefB (by kernel_rfl) (by kernel_rfl)) (by kernel_rfl) (by kernel_rfl) (by kernel_rfl) (door_met os _)) ?_
 intro W base args ds gs before hval0 hW _ hwt hL _
 have hval : ∀ (j : Nat) t v, Tryz.f3.params[j]? = some t → args[j]? = some v → Value.okWide Tryz.prog W .any base t v := hval0
 have hW' := hW
 obtain ⟨p, q, hA0, hV, rfl, hfz, hnd⟩ := hW
 have hA : DataW.TrodAll enc Tryz.prog W 0 (fun _ => true) true Tryz.f3.params.toList args.toList ds p := hA0
 rw [Tryz.params3] at hA hval
 obtain ⟨v0, vs0, d0, ds0, p0, q0, hargs, rfl, rfl, h0, r0⟩ := trodAll_cons hA
 obtain ⟨v1, vs1, d1, ds1, p1, q1, rfl, rfl, rfl, h1, r1⟩ := trodAll_cons r0
 obtain ⟨v2, vs2, d2, ds2, p2, q2, rfl, rfl, rfl, h2, r2⟩ := trodAll_cons r1
 obtain ⟨v3, vs3, d3, ds3, p3, q3, rfl, rfl, rfl, h3, r3⟩ := trodAll_cons r2
 obtain ⟨rfl, rfl, rfl⟩ := trodAll_nil r3
 obtain rfl : args = #[v0, v1, v2, v3] := by cases args; simp_all
 obtain ⟨rfl, rfl⟩ := trodVars_none hV
 have lt0 : ∀ x ∈ p0, x.block < W.heap.size := by obtain ⟨m, hm⟩ := h0; exact DataW.trod_lt m _ _ _ hm
 have lt1 : ∀ x ∈ p1, x.block < W.heap.size := by obtain ⟨m, hm⟩ := h1; exact DataW.trod_lt m _ _ _ hm
 have lt2 : ∀ x ∈ p2, x.block < W.heap.size := by obtain ⟨m, hm⟩ := h2; exact DataW.trod_lt m _ _ _ hm
 have lt3 : ∀ x ∈ p3, x.block < W.heap.size := by obtain ⟨m, hm⟩ := h3; exact DataW.trod_lt m _ _ _ hm
 have k0' := h0
 have k1' := h1
 have k2' := h2
 have k3' := h3
 obtain ⟨cs0, rfl, _⟩ := okWide_struct Tryz.underlying27 (hval 0 27 v0 rfl rfl)
 obtain ⟨m0, hm0⟩ := h0
 obtain ⟨s0, a0, n0, c0, ra0, rn0, rc0, rs0, e0, S0, R0⟩ := open_liar (cs := cs0.toList) (by simpa [Value.cells] using hm0)
 obtain rfl : cs0 = (liC s0 a0 n0 c0 ra0 rn0 rc0).toArray := by rw [← e0]
 clear hm0 e0
 obtain ⟨x1, rfl⟩ := okWide_int Tryz.underlying3 (hval 1 3 v1 rfl rfl)
 obtain ⟨m1, hm1⟩ := h1
 obtain ⟨x1', e1, i1⟩ := open_int1 (cs := [.int .i64 x1]) (by simpa [Value.cells] using hm1)
 obtain rfl : x1 = x1' := by simpa using e1
 clear hm1 e1
 obtain ⟨x2, rfl⟩ := okWide_int Tryz.underlying3 (hval 2 3 v2 rfl rfl)
 obtain ⟨m2, hm2⟩ := h2
 obtain ⟨x2', e2, i2⟩ := open_int1 (cs := [.int .i64 x2]) (by simpa [Value.cells] using hm2)
 obtain rfl : x2 = x2' := by simpa using e2
 clear hm2 e2
 obtain ⟨x3, rfl⟩ := okWide_int Tryz.underlying3 (hval 3 3 v3 rfl rfl)
 obtain ⟨m3, hm3⟩ := h3
 obtain ⟨x3', e3, i3⟩ := open_int1 (cs := [.int .i64 x3]) (by simpa [Value.cells] using hm3)
 obtain rfl : x3 = x3' := by simpa using e3
 clear hm3 e3
 have hT := tabs_of_laid hL
 clear hA0 hval0
 refine (topforks_walk s0 a0 n0 c0 ra0 rn0 rc0 rs0 x1 i1 x2 i2 x3 i3 W hT S0 R0).mono fun e W' ⟨he, bel⟩ => ?_
 subst he
 exact ⟨_, rfl, _, _, _, [], _, [], hW', trodAll_mk1 (shut_bool Tryz.underlying4 _),
  (trodAll_cons_mk (Below.trod laidOut (by kernel_rfl) (of_decide_eq_true (by kernel_rfl)) k0' bel lt0) (trodAll_cons_mk (Below.trod laidOut (by kernel_rfl) (of_decide_eq_true (by kernel_rfl)) k1' bel lt1) (trodAll_cons_mk (Below.trod laidOut (by kernel_rfl) (of_decide_eq_true (by kernel_rfl)) k2' bel lt2) (trodAll_cons_mk (Below.trod laidOut (by kernel_rfl) (of_decide_eq_true (by kernel_rfl)) k3' bel lt3) trodAll_mk0)))), rfl, bel.frame _, fun h => by cases h⟩

theorem over : Rows.TopForksSaid :=
 OpenClaim.holds_of_wide 3 Tryz.f3 rfl rfl rfl rfl rfl rfl rfl ⟨rfl, rfl, rfl, rfl, rfl⟩ rfl rfl rfl rfl rfl (by kernel_rfl) Tryz.func3 (by kernel_rfl)
  (of_decide_eq_true (by kernel_rfl)) (by unfold Func.isWrapper; first | (rw [if_pos (by decide +kernel)]; kernel_rfl) | (rw [if_neg (by decide +kernel)]; exact ⟨rfl, rfl⟩))
  (fun os started H enc _ => lifted os started H enc)

theorem proved : Rows.TopForksCardSaid :=
 Claim7.holds_tied_plain_at .later [] [.data, .data] true (true, "61e2f70981a8c0bfaff58b11096e9b014427882e52d813c9818ce2f80f8e3bab") false
  over (fun _ h => by cases h) (by kernel_rfl) (fun _ h => by cases h) topForks_row_tie rfl ⟨rfl, rfl⟩ (by kernel_rfl) rfl
  (fun f fn hf hfn => by
    obtain rfl : f = 3 := Option.some.inj ((show Tryz.prog.funcNamed "chartroom/chartroomtop.TopForks" = some 3 by kernel_rfl).symm.trans hf) |>.symm
    obtain rfl : fn = Tryz.f3 := (Option.some.inj (Tryz.func3.symm.trans hfn)).symm
    exact ⟨by kernel_rfl, fun j t ht => by
     rw [Tryz.params3] at ht
     have hm : t ∈ [27, 3, 3, 3] := by simpa using Array.mem_of_getElem? ht
     have hall : ([27, 3, 3, 3].all fun u => !Tryz.prog.wantsStandIn u) = true := by kernel_rfl
     exact (show Tryz.prog.wantsStandIn t = false by simpa using List.all_eq_true.1 hall t hm)⟩)
  (by kernel_rfl)
#print axioms proved
end Go.Proofs.YtiionehcmoginaaGreatDoor.lawTop

