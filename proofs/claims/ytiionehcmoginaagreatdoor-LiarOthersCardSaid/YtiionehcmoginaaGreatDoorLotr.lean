/- LiarOthers: the walk -/
import Derived.Test.YtiionehcmoginaaGreatDoorLiC
import Derived.Test.YtiionehcmoginaaGreatDoorLwo
import Derived.Test.YtiionehcmoginaaGreatDoorCards
import Derived.Test.YtiionehcmoginaaGreatDoorTie
import Derived.SevenTiedAt
import Derived.Deep.DeepHandedRow
import Derived.Deep.DeepWitnessRowRef
namespace Go.Proofs.YtiionehcmoginaaGreatDoor
open Go.RowKit Go.Mem Go.Shelf
open Go.Sto (Ent St Rul forkE BdL)
open Go.Vw (Hd Sg eqH)

theorem _root_.Go.Sto.show_wo {s : St} {rs : List Rul} {dev o f : Int} (h : Sto.chkL s rs = 0) (hd : dev ≠ o) : Sto.showL s (Sto.wo rs o) dev f = Sto.showL s rs dev f ∧ showH s (Sto.wo rs o) dev f = showH s rs dev f := by
  unfold Sto.showL showH
  rw [Sto.shown_wo h hd]
  exact ⟨rfl, rfl⟩
/-- without rules about it, a device is shown the log, with the head that the store signs. -/
theorem _root_.Go.Sto.show_own {s : St} {rs : List Rul} {dev f : Int} (h : (Sto.showL s (Sto.wo rs dev) dev f).2 = 0) :
    (Sto.fetchS s f 1).2 = 0 ∧ Sto.openE s f = 0 ∧ (Sto.showL s (Sto.wo rs dev) dev f).1 = (Sto.fetchS s f 1).1 ∧ showH s (Sto.wo rs dev) dev f = signHd s f (Sto.fetchS s f 1).1.length ((Sto.fetchS s f 1).1.map (·.dig)) ∧ Sto.honestL s (Sto.wo rs dev) dev f = (true, 0) := by
  obtain ⟨h1, h2⟩ := Sto.showL_ok h
  have h3 := Sto.shown_true (Sto.wo_own rs dev) h1
  obtain ⟨_, _, h4, _⟩ := Sto.shownL_ok h1
  refine ⟨h4, Sto.fetch_open h4, by rw [h2, h3], ?_, Sto.honest_true (Sto.wo_own rs dev) h1⟩
  unfold showH
  rw [if_pos h1, h3]
theorem fet_bd {s : St} {f : Int} (h : BdL 0 (Sto.ents s f)) : (Sto.fetchS s f 1).1.length ≤ 78 := Nat.le_trans (Sto.fetch_bd (fr := 1) h).len (by omega)

set_option maxRecDepth 100000 in
set_option maxHeartbeats 20000000 in
theorem lothers_walk (s : St) (a : Option Addr) (n c : Nat) (ra : Option Addr) (rn rc : Nat) (rs : List Rul) (x1 : Int) (_i1 : I64 x1) (x2 : Int) (_i2 : I64 x2) (f : Int) (hf : I64 f) (w : World) (HT : Tabs w) (S0 : SVr w a n c s) (R0 : RuS w ra rn rc rs) :
    Calls Tryz.prog 5 #[.agg (liC s a n c ra rn rc).toArray, .int .i64 x1, .int .i64 x2, .int .i64 f] w (RetBo true w) := by
  have hrl := R0.len
  have hrm : rn ≤ 9223372036854775807 := Nat.le_trans (RS.le R0) (RS.max R0)
  have HT' := Lib.hid HT; have S0' := Lib.hid S0; have R0' := Lib.hid R0
  clear HT S0 R0
  obtain ⟨sb, hsb⟩ : ∃ sb, Hid (w.heap.size = sb) := ⟨_, rfl⟩
  obtain ⟨W1, hW1⟩ : ∃ W1, Hid (w.alloc (.cells #[.int .i64 s.id, .int .i64 s.priv, .slice a n c, .slice ra rn rc] 27) = W1) := ⟨_, rfl⟩
  have hB1 : Hid (Blk W1 sb 27 (liC s a n c ra rn rc)) := by rw [← hW1.out, ← hsb.out]; exact Blk.new w _ (liC s a n c ra rn rc)
  have hbw : Hid (Below w.heap.size w W1) := by rw [← hW1.out]; exact (Below.refl _ w).alloc (Nat.le_refl _) _
  obtain ⟨X, hX⟩ : ∃ X, Hid (X = RetBo true w) := ⟨_, rfl⟩
  have hfin : Hid (∀ W, Below w.heap.size w W → X (.returned (.bool true)) W) := fun W hb => by rw [hX.out]; exact ⟨rfl, hb⟩
  rw [← hX.out]
  clear hX
  obtain ⟨fq, hfq⟩ : ∃ q, Hid (fewL s rn = q) := ⟨_, rfl⟩
  have hfw := Lib.hid (fun W (hW : Below w.heap.size w W) => few31_any a n c s ra rn rc W (S0'.out.below hW) hrm)
  rw [hfq.out] at hfw
  unfold liC at *
  go_enter Tryz.func5, Tryz.ntmps5
  go_upto_region 1 with fail
  rw [hsb.out]
  generalize hWq : w.alloc _ = Wq
  obtain rfl : W1 = Wq := by rw [← hWq]; exact hW1.out.symm
  clear hWq hW1
  go_wp2_with fail
  refine (sane31_any _ (HT'.out.below hbw.out)).mono ?_
  rintro e w2 ⟨rfl, hst⟩
  replace hB1 := Lib.hid (hB1.out.below hst hB1.out.lt)
  replace hbw := Lib.hid (hbw.out.trans (hst.mono hbw.out.size))
  clear hst
  have l0 := hB1.out.at_ (i := 0) rfl
  have l1 := hB1.out.at_ (i := 1) rfl
  have l2 := hB1.out.at_ (i := 2) rfl
  have l3 := hB1.out.at_ (i := 3) rfl
  go_wp2_with fail
  refine (hfw.out _ hbw.out).mono ?_
  rintro e w3 ⟨rfl, hst⟩
  replace hB1 := Lib.hid (hB1.out.below hst hB1.out.lt)
  replace hbw := Lib.hid (hbw.out.trans (hst.mono hbw.out.size))
  clear hst l0 l1 l2 l3 hfw
  cases fq with
  | false =>
    have hf := Lib.hid (hfin.out _ hbw.out)
    clear hB1 hbw hfq
    go_wp2_with fail
    exact hf.out
  | true =>
    have hfew : few30s s = true ∧ rn ≤ 70 := by
      have := hfq.out
      unfold fewL at this
      simpa using this
    have hsv : Hid (∀ W, Below w.heap.size w W → SV (fun _ => True) W a n c s) := fun W h => (S0'.out.below h).sv hfew.1
    have hrs : Hid (∀ W, Below w.heap.size w W → RuS W ra rn rc rs) := fun W h => R0'.out.below h
    have hbd : Hid (∀ f, BdL 0 (Sto.ents s f)) := fun f => few_bd hfew.1 f
    have hrn : rn ≤ 70 := hfew.2
    clear hfq hfew S0' R0'
    subst hrl
    have l0 := hB1.out.at_ (i := 0) rfl
    have l1 := hB1.out.at_ (i := 1) rfl
    have l2 := hB1.out.at_ (i := 2) rfl
    have l3 := hB1.out.at_ (i := 3) rfl
    have hck := Lib.hid (liCheck_any a n c s ra rs.length rc rs w3 (HT'.out.below hbw.out) (hsv.out _ hbw.out) (hrs.out _ hbw.out))
    obtain ⟨q0, hq0⟩ : ∃ q, Hid (Sto.chkL s rs = q) := ⟨_, rfl⟩
    rw [hq0.out] at hck
    unfold liC at hck
    go_wp2_with fail
    refine hck.out.mono ?_
    rintro e w4 ⟨rfl, hst⟩
    replace hB1 := Lib.hid (hB1.out.below hst hB1.out.lt)
    replace hbw := Lib.hid (hbw.out.trans (hst.mono hbw.out.size))
    clear hst l0 l1 l2 l3 hck
    by_cases hqz : q0 = 0
    case neg =>
      have hqn : (q0 != 0) = true := by simpa using hqz
      have hf0 := Lib.hid (hfin.out _ hbw.out)
      clear hqz hq0
      go_wp2_with fail
      exact hf0.out
    case pos =>
      subst hqz
      have hck0 := Lib.hid hq0.out
      clear hq0
      have hwo := Lib.hid (fun o W (h : Below w.heap.size w W) => without_any s a n c ra rs.length rc rs o W (hrs.out W h) (by omega))
      unfold liC at hwo
      go_upto_if 36 with fail
      go_cut [8] (fun s8 wx => s8 = .bool false ∧ Hid (Blk wx sb 27 (liC s a n c ra rs.length rc)) ∧ Hid (Below w.heap.size w wx))
      case first =>
        by_cases hd : x1 = x2
        · have g1 : (x1 != x2) = false := by simpa using hd
          clear hd
          go_wp2_with fail
          go_meet
          exact ⟨rfl, hB1, hbw⟩
        · have g1 : (x1 != x2) = true := by simpa using hd
          obtain ⟨k, okk, hk, _⟩ := show_hk (rs := rs) (dev := x1) (hbd.out f)
          obtain ⟨hwl, hwh⟩ := Sto.show_wo (f := f) hck0.out hd
          have hle := Sto.showL_len (rs := rs) (dev := x1) (hbd.out f)
          have hok' := Lib.hid okk
          have hs1 := Lib.hid (fun W (h : Below w.heap.size w W) => shk_any hk hf (HT'.out.below h) (hsv.out _ h) (hrs.out _ h) (hbd.out f))
          have hs2 := Lib.hid (fun W va vc (h : Below w.heap.size w W) (hr : RuS W va (Sto.wo rs x2).length vc (Sto.wo rs x2)) => shk_any (rs := Sto.wo rs x2) (dev := x1) (hk.trans hwh.symm) hf (HT'.out.below h) (hsv.out _ h) hr (hbd.out f))
          rw [hwl] at hs2
          have heq := fun W => eq_head okk okk W
          rw [eqH_refl] at heq
          generalize Sto.showL s rs x1 f = p at *
          obtain ⟨L, q⟩ := p
          simp only at hs1 hs2 hle
          clear hk okk hwl hwh hd
          have l0 := hB1.out.at_ (i := 0) rfl
          have l1 := hB1.out.at_ (i := 1) rfl
          have l2 := hB1.out.at_ (i := 2) rfl
          have l3 := hB1.out.at_ (i := 3) rfl
          go_wp2_with fail
          refine (hs1.out _ hbw.out).mono ?_
          rintro e w5 ⟨va, vc, rfl, hE, hst⟩
          clear l0 l1 l2 l3
          replace hB1 := Lib.hid (hB1.out.below hst hB1.out.lt)
          replace hbw := Lib.hid (hbw.out.trans (hst.mono hbw.out.size))
          have hE5 : Hid (ES (fun _ => True) w5 va L.length vc L) := hE.imp fun _ _ _ => trivial
          clear hst hE
          obtain ⟨v5, hP⟩ : ∃ V, Hid (PutR 36 (w5.alloc (.cells (zeroHd : List Value).toArray 36)) V w5.heap.size 36 (hdC k)) := put_row (Blk.new w5 36 (zeroHd)) (by rw [hdC_len hok'.out, zeroHd_len]) (by rw [hdC_len hok'.out]; exact size37) ((hdC_r hok'.out).one)
          have hst := below_grown ((Below.refl _ w5).alloc (Nat.le_refl _) _) hP.out.grown (by simp) (Nat.le_refl _)
          replace hB1 := Lib.hid (hB1.out.below hst hB1.out.lt)
          replace hE5 := Lib.hid (hE5.out.below hst)
          replace hbw := Lib.hid (hbw.out.trans (hst.mono hbw.out.size))
          clear hst
          have hH5 := Lib.hid hP.out.blk
          have l0 := hB1.out.at_ (i := 0) rfl
          have l1 := hB1.out.at_ (i := 1) rfl
          have l2 := hB1.out.at_ (i := 2) rfl
          have l3 := hB1.out.at_ (i := 3) rfl
          go_wp2_with (first
            | (refine wpList_store_mid (by rfl) 36 (.tmp 10) (.tmp 43) (by rfl) w5.heap.size 0 (hdC k).toArray (by rfl) (by rfl) hP.out.there hP.out.info (by simpa using hP.out.one) ?_
               generalize hWq : World.setCells _ _ _ _ = Wa
               obtain rfl : v5 = Wa := by rw [← hWq]; exact hP.out.eq
               clear hWq))
          clear hP
          refine (hwo.out x2 _ hbw.out).mono ?_
          rintro e w6 ⟨ua, uc, rfl, hR6, hst⟩
          clear l0 l1 l2 l3
          replace hB1 := Lib.hid (hB1.out.below hst hB1.out.lt)
          replace hE5 := Lib.hid (hE5.out.below hst)
          replace hH5 := Lib.hid (hH5.out.below hst hH5.out.lt)
          replace hbw := Lib.hid (hbw.out.trans (hst.mono hbw.out.size))
          clear hst
          unfold liC
          go_wp2_with fail
          refine (hs2.out _ ua uc hbw.out hR6).mono ?_
          rintro e w7 ⟨vb, vd, rfl, hE, hst⟩
          replace hB1 := Lib.hid (hB1.out.below hst hB1.out.lt)
          replace hE5 := Lib.hid (hE5.out.below hst)
          replace hH5 := Lib.hid (hH5.out.below hst hH5.out.lt)
          replace hbw := Lib.hid (hbw.out.trans (hst.mono hbw.out.size))
          have hE7 : Hid (ES (fun _ => True) w7 vb L.length vd L) := hE.imp fun _ _ _ => trivial
          clear hst hE hR6
          obtain ⟨v7, hP⟩ : ∃ V, Hid (PutR 36 (w7.alloc (.cells (zeroHd : List Value).toArray 36)) V w7.heap.size 36 (hdC k)) := put_row (Blk.new w7 36 (zeroHd)) (by rw [hdC_len hok'.out, zeroHd_len]) (by rw [hdC_len hok'.out]; exact size37) ((hdC_r hok'.out).one)
          have hst := below_grown ((Below.refl _ w7).alloc (Nat.le_refl _) _) hP.out.grown (by simp) (Nat.le_refl _)
          replace hB1 := Lib.hid (hB1.out.below hst hB1.out.lt)
          replace hE5 := Lib.hid (hE5.out.below hst)
          replace hH5 := Lib.hid (hH5.out.below hst hH5.out.lt)
          replace hE7 := Lib.hid (hE7.out.below hst)
          replace hbw := Lib.hid (hbw.out.trans (hst.mono hbw.out.size))
          clear hst
          have hH7 := Lib.hid hP.out.blk
          have hsm := Lib.hid (sameE_any (fun _ => True) (fun _ => True) va vb L.length vc vd L v7 hE5.out hE7.out)
          go_wp2_with (first
            | (refine wpList_store_mid (by rfl) 36 (.tmp 13) (.tmp 54) (by rfl) w7.heap.size 0 (hdC k).toArray (by rfl) (by rfl) hP.out.there hP.out.info (by simpa using hP.out.one) ?_
               generalize hWq : World.setCells _ _ _ _ = Wa
               obtain rfl : v7 = Wa := by rw [← hWq]; exact hP.out.eq
               clear hWq))
          clear hP
          refine hsm.out.mono ?_
          rintro e w8 ⟨rfl, m, rfl⟩
          have hst := below_drewQ (Below.refl v7.heap.size v7) m
          replace hB1 := Lib.hid (hB1.out.below hst hB1.out.lt)
          replace hE5 := Lib.hid (hE5.out.below hst)
          replace hH5 := Lib.hid (hH5.out.below hst hH5.out.lt)
          replace hE7 := Lib.hid (hE7.out.below hst)
          replace hH7 := Lib.hid (hH7.out.below hst hH7.out.lt)
          replace hbw := Lib.hid (hbw.out.trans (hst.mono hbw.out.size))
          clear hst hsm
          have hg1 := Lib.hid hH5.out.range
          have hg2 := Lib.hid hH7.out.range
          have hi := infoHd hok'.out
          generalize v7.drewN m = v8 at *
          go_wp2_with (first
            | (refine wpList_load_g (by rfl) 36 _ (by rfl) w5.heap.size 0 (by rfl) (hdC k) _ hg1.out Tryz.underlying36 (by rfl) hi.out ?_)
            | (refine wpList_load_g (by rfl) 36 _ (by rfl) w7.heap.size 0 (by rfl) (hdC k) _ hg2.out Tryz.underlying36 (by rfl) hi.out ?_))
          go_meet
          exact ⟨rfl, hB1, hbw⟩
      case rest =>
        clear hB1 hbw
        obtain ⟨rfl, hB1, hbw⟩ := hcut
        obtain ⟨k, okk, hk, _⟩ := show_hk (rs := Sto.wo rs x1) (dev := x1) (hbd.out f)
        have hle := Sto.showL_len (rs := Sto.wo rs x1) (dev := x1) (hbd.out f)
        have hft := fet_bd (hbd.out f)
        have hok' := Lib.hid okk
        have hs1 := Lib.hid (fun W va vc (h : Below w.heap.size w W) (hr : RuS W va (Sto.wo rs x1).length vc (Sto.wo rs x1)) => shk_any (rs := Sto.wo rs x1) (dev := x1) hk hf (HT'.out.below h) (hsv.out _ h) hr (hbd.out f))
        have hh1 := Lib.hid (fun W va vc (h : Below w.heap.size w W) (hr : RuS W va (Sto.wo rs x1).length vc (Sto.wo rs x1)) => lhonest_any a n c s va (Sto.wo rs x1).length vc (Sto.wo rs x1) x1 f W (HT'.out.below h) (hsv.out _ h) hr (hbd.out f))
        have hfe := Lib.hid (fun W (h : Below w.heap.size w W) => Fetch_any a n c s f 1 ⟨by decide, by decide⟩ W (HT'.out.below h) (hsv.out _ h))
        have hsn := Lib.hid (fun W ea ec (he : Sto.openE s f = 0) (h : Below w.heap.size w W) (hok : ∀ e ∈ (Sto.fetchS s f 1).1, OkE e) (hE : ES (fun _ => True) W ea (Sto.fetchS s f 1).1.length ec (Sto.fetchS s f 1).1) => storeSign_any a n c s f hf (fun _ => True) ea (Sto.fetchS s f 1).1.length ec (Sto.fetchS s f 1).1 hok (by omega) W (HT'.out.below h) (hsv.out _ h) hE he)
        have how := Lib.hid (@Sto.show_own s rs x1 f)
        have her := Lib.hid (@Sto.showL_err s (Sto.wo rs x1) x1 f)
        rw [← hk] at how
        have heq := fun W => eq_head okk okk W
        rw [eqH_refl] at heq
        generalize Sto.showL s (Sto.wo rs x1) x1 f = p at *
        generalize Sto.honestL s (Sto.wo rs x1) x1 f = ph at *
        generalize Sto.fetchS s f 1 = pf at *
        obtain ⟨L, q⟩ := p
        obtain ⟨L2, q2⟩ := pf
        simp only at hs1 hle hft hfe hsn how her
        unfold liC at hh1
        clear hk okk
        have l0 := hB1.out.at_ (i := 0) rfl
        have l1 := hB1.out.at_ (i := 1) rfl
        have l2 := hB1.out.at_ (i := 2) rfl
        have l3 := hB1.out.at_ (i := 3) rfl
        go_wp2_with fail
        refine (hwo.out x1 _ hbw.out).mono ?_
        rintro e w5 ⟨ua, uc, rfl, hR5, hst⟩
        clear l0 l1 l2 l3
        replace hB1 := Lib.hid (hB1.out.below hst hB1.out.lt)
        replace hbw := Lib.hid (hbw.out.trans (hst.mono hbw.out.size))
        clear hst
        unfold liC
        go_wp2_with fail
        refine (hs1.out _ ua uc hbw.out hR5).mono ?_
        rintro e w6 ⟨va, vc, rfl, hE, hst⟩
        replace hB1 := Lib.hid (hB1.out.below hst hB1.out.lt)
        replace hbw := Lib.hid (hbw.out.trans (hst.mono hbw.out.size))
        have hE6 : Hid (ES (fun _ => True) w6 va L.length vc L) := hE.imp fun _ _ _ => trivial
        clear hst hE hR5
        obtain ⟨v6, hP⟩ : ∃ V, Hid (PutR 36 (w6.alloc (.cells (zeroHd : List Value).toArray 36)) V w6.heap.size 36 (hdC k)) := put_row (Blk.new w6 36 (zeroHd)) (by rw [hdC_len hok'.out, zeroHd_len]) (by rw [hdC_len hok'.out]; exact size37) ((hdC_r hok'.out).one)
        have hst := below_grown ((Below.refl _ w6).alloc (Nat.le_refl _) _) hP.out.grown (by simp) (Nat.le_refl _)
        replace hB1 := Lib.hid (hB1.out.below hst hB1.out.lt)
        replace hE6 := Lib.hid (hE6.out.below hst)
        replace hbw := Lib.hid (hbw.out.trans (hst.mono hbw.out.size))
        clear hst
        have hH6 := Lib.hid hP.out.blk
        have l0 := hB1.out.at_ (i := 0) rfl
        have l1 := hB1.out.at_ (i := 1) rfl
        have l2 := hB1.out.at_ (i := 2) rfl
        have l3 := hB1.out.at_ (i := 3) rfl
        by_cases hq : q = 0
        · subst hq
          obtain ⟨y1, y2, y3, y4, y5⟩ := how.out rfl
          subst y1
          subst y3
          subst y5
          clear how her
          have y2' := Lib.hid y2
          have y4' := Lib.hid y4
          clear y2 y4
          go_wp2_with (first
            | (refine wpList_store_mid (by rfl) 36 (.tmp 16) (.tmp 79) (by rfl) w6.heap.size 0 (hdC k).toArray (by rfl) (by rfl) hP.out.there hP.out.info (by simpa using hP.out.one) ?_
               generalize hWq : World.setCells _ _ _ _ = Wa
               obtain rfl : v6 = Wa := by rw [← hWq]; exact hP.out.eq
               clear hWq))
          clear hP l0 l1 l2 l3
          refine (hfe.out _ hbw.out).mono ?_
          rintro e w7 ⟨ea, ec, rfl, hE, hst⟩
          replace hB1 := Lib.hid (hB1.out.below hst hB1.out.lt)
          replace hE6 := Lib.hid (hE6.out.below hst)
          replace hH6 := Lib.hid (hH6.out.below hst hH6.out.lt)
          replace hbw := Lib.hid (hbw.out.trans (hst.mono hbw.out.size))
          have hE7 : Hid (ES (fun _ => True) w7 ea L.length ec L) := hE.imp fun _ _ _ => trivial
          clear hst hE hfe
          have hoks : ∀ e ∈ L, OkE e := fun e he => by
            obtain ⟨i, hi⟩ := List.getElem?_of_mem he
            obtain ⟨_, _, _, _, _, _, ⟨ok, _⟩, _⟩ := hE7.out.rs.get hi
            exact ok
          have hsn2 := Lib.hid (hsn.out w7 ea ec y2'.out hbw.out hoks hE7.out)
          rw [← y4'.out] at hsn2
          clear hsn hoks
          have l0 := hB1.out.at_ (i := 0) rfl
          have l1 := hB1.out.at_ (i := 1) rfl
          have l2 := hB1.out.at_ (i := 2) rfl
          have l3 := hB1.out.at_ (i := 3) rfl
          go_wp2_with fail
          refine hsn2.out.mono ?_
          rintro e w8 ⟨rfl, hst⟩
          clear l0 l1 l2 l3 hsn2
          replace hB1 := Lib.hid (hB1.out.below hst hB1.out.lt)
          replace hE6 := Lib.hid (hE6.out.below hst)
          replace hH6 := Lib.hid (hH6.out.below hst hH6.out.lt)
          replace hE7 := Lib.hid (hE7.out.below hst)
          replace hbw := Lib.hid (hbw.out.trans (hst.mono hbw.out.size))
          clear hst
          obtain ⟨v8, hP⟩ : ∃ V, Hid (PutR 36 (w8.alloc (.cells (zeroHd : List Value).toArray 36)) V w8.heap.size 36 (hdC k)) := put_row (Blk.new w8 36 (zeroHd)) (by rw [hdC_len hok'.out, zeroHd_len]) (by rw [hdC_len hok'.out]; exact size37) ((hdC_r hok'.out).one)
          have hst := below_grown ((Below.refl _ w8).alloc (Nat.le_refl _) _) hP.out.grown (by simp) (Nat.le_refl _)
          replace hB1 := Lib.hid (hB1.out.below hst hB1.out.lt)
          replace hE6 := Lib.hid (hE6.out.below hst)
          replace hH6 := Lib.hid (hH6.out.below hst hH6.out.lt)
          replace hE7 := Lib.hid (hE7.out.below hst)
          replace hbw := Lib.hid (hbw.out.trans (hst.mono hbw.out.size))
          clear hst
          have hH8 := Lib.hid hP.out.blk
          have l0 := hB1.out.at_ (i := 0) rfl
          have l1 := hB1.out.at_ (i := 1) rfl
          have l2 := hB1.out.at_ (i := 2) rfl
          have l3 := hB1.out.at_ (i := 3) rfl
          go_wp2_with (first
            | (refine wpList_store_mid (by rfl) 36 (.tmp 20) (.tmp 99) (by rfl) w8.heap.size 0 (hdC k).toArray (by rfl) (by rfl) hP.out.there hP.out.info (by simpa using hP.out.one) ?_
               generalize hWq : World.setCells _ _ _ _ = Wa
               obtain rfl : v8 = Wa := by rw [← hWq]; exact hP.out.eq
               clear hWq))
          clear hP
          refine (hwo.out x1 _ hbw.out).mono ?_
          rintro e w9 ⟨ua, uc, rfl, hR9, hst⟩
          clear l0 l1 l2 l3
          replace hB1 := Lib.hid (hB1.out.below hst hB1.out.lt)
          replace hE6 := Lib.hid (hE6.out.below hst)
          replace hH6 := Lib.hid (hH6.out.below hst hH6.out.lt)
          replace hE7 := Lib.hid (hE7.out.below hst)
          replace hH8 := Lib.hid (hH8.out.below hst hH8.out.lt)
          replace hbw := Lib.hid (hbw.out.trans (hst.mono hbw.out.size))
          clear hst
          unfold liC
          go_wp2_with fail
          refine (hh1.out _ ua uc hbw.out hR9).mono ?_
          rintro e w10 ⟨rfl, hst⟩
          replace hB1 := Lib.hid (hB1.out.below hst hB1.out.lt)
          replace hE6 := Lib.hid (hE6.out.below hst)
          replace hH6 := Lib.hid (hH6.out.below hst hH6.out.lt)
          replace hE7 := Lib.hid (hE7.out.below hst)
          replace hH8 := Lib.hid (hH8.out.below hst hH8.out.lt)
          replace hbw := Lib.hid (hbw.out.trans (hst.mono hbw.out.size))
          clear hst hR9 hh1
          have hsm := Lib.hid (sameE_any (fun _ => True) (fun _ => True) va ea L.length vc ec L w10 hE6.out hE7.out)
          go_wp2_with fail
          refine hsm.out.mono ?_
          rintro e w11 ⟨rfl, m, rfl⟩
          have hst := below_drewQ (Below.refl w10.heap.size w10) m
          replace hB1 := Lib.hid (hB1.out.below hst hB1.out.lt)
          replace hE6 := Lib.hid (hE6.out.below hst)
          replace hH6 := Lib.hid (hH6.out.below hst hH6.out.lt)
          replace hE7 := Lib.hid (hE7.out.below hst)
          replace hH8 := Lib.hid (hH8.out.below hst hH8.out.lt)
          replace hbw := Lib.hid (hbw.out.trans (hst.mono hbw.out.size))
          clear hst hsm
          have hg1 := Lib.hid hH6.out.range
          have hg2 := Lib.hid hH8.out.range
          have hi := infoHd hok'.out
          generalize w10.drewN m = v11 at *
          have hf0 := Lib.hid (hfin.out _ hbw.out)
          go_wp2_with (first
            | (refine wpList_load_g (by rfl) 36 _ (by rfl) w6.heap.size 0 (by rfl) (hdC k) _ hg1.out Tryz.underlying36 (by rfl) hi.out ?_)
            | (refine wpList_load_g (by rfl) 36 _ (by rfl) w8.heap.size 0 (by rfl) (hdC k) _ hg2.out Tryz.underlying36 (by rfl) hi.out ?_))
          exact hf0.out
        · have hL := her.out hq
          subst hL
          have hf0 := Lib.hid (hfin.out _ hbw.out)
          have hqn : (q != 0) = true := by simpa using hq
          clear how her hq
          go_wp2_with (first
            | (refine wpList_store_mid (by rfl) 36 (.tmp 16) (.tmp 79) (by rfl) w6.heap.size 0 (hdC k).toArray (by rfl) (by rfl) hP.out.there hP.out.info (by simpa using hP.out.one) ?_
               generalize hWq : World.setCells _ _ _ _ = Wa
               obtain rfl : v6 = Wa := by rw [← hWq]; exact hP.out.eq
               clear hWq))
          exact hf0.out
end Go.Proofs.YtiionehcmoginaaGreatDoor
namespace Go.Proofs.YtiionehcmoginaaGreatDoor.lawLOthers
open Go.ChangeShapes Go.WideShapes Go.ChangeAt Go.RowKit Go.Mem
open Go.Proofs.YtiionehcmoginaaGreatDoor

set_option maxRecDepth 100000 in
theorem lifted (os : Os) (started : os.Started) (H : Type) (enc : TypeId × Value → H) :
    ReturnsInHanded {} Tryz.checked os 5 .any (fun w args => (Rows.liarOthersSpec.pre enc Tryz.prog Tryz.f5 [] false w args ∧ laidMetH Tryz.prog laid2 w) ∧ sizedMet enc Tryz.prog Tryz.f5 (OpenSpec.ofChange Rows.liarOthersSpec) false w args)
      (Rows.liarOthersSpec.post enc Tryz.prog Tryz.f5 false true false false) := by
  refine returnsInHanded_of_change_and (C := Tryz.checked) (X := fun w _ => laidMetH Tryz.prog laid2 w) (fun _ _ _ hh h => h.of_heap hh) own started (by kernel_rfl) Tryz.func5
    (ChangeSpec.witness_shaped (enc := enc) (C := Tryz.checked) (os := os) (X := fun w _ => laidMetH Tryz.prog laid2 w) false (World.doorLaid Tryz.prog 400 os) #[.agg (liC ⟨0, 0, []⟩ none 0 0 none 0 0).toArray, .int .i64 0, .int .i64 0, .int .i64 0] 8 rfl (World.shaped_of_RefB (by kernel_rfl) (by kernel_rfl)) (by kernel_rfl) (by kernel_rfl) (by kernel_rfl) (door_met os _)) ?_
  intro W base args ds gs before hval0 hW _ hwt hL _
  have hval : ∀ (j : Nat) t v, Tryz.f5.params[j]? = some t → args[j]? = some v → Value.okWide Tryz.prog W .any base t v := hval0
  have hW' := hW
  obtain ⟨p, q, hA0, hV, rfl, hfz, hnd⟩ := hW
  have hA : DataW.TrodAll enc Tryz.prog W 0 (fun _ => true) true Tryz.f5.params.toList args.toList ds p := hA0
  rw [Tryz.params5] at hA hval
  obtain ⟨v0, vs0, d0, ds0, p0, q0, hargs, rfl, rfl, h0, r0⟩ := trodAll_cons hA
  obtain ⟨v1, vs1, d1, ds1, p1, q1, rfl, rfl, rfl, h1, r1⟩ := trodAll_cons r0
  obtain ⟨v2, vs2, d2, ds2, p2, q2, rfl, rfl, rfl, h2, r2⟩ := trodAll_cons r1
  obtain ⟨v3, vs3, d3, ds3, p3, q3, rfl, rfl, rfl, h3, r3⟩ := trodAll_cons r2
  obtain ⟨rfl, rfl, rfl⟩ := trodAll_nil r3
  obtain rfl : args = #[v0, v1, v2, v3] := by cases args; simp_all
  obtain ⟨rfl, rfl⟩ := trodVars_none hV
  have lt0 : ∀ x ∈ p0, x.block < W.heap.size := by obtain ⟨m, hm⟩ := h0; exact DataW.trod_lt m _ _ _ hm
  have lt1 : ∀ x ∈ p1, x.block < W.heap.size := by obtain ⟨m, hm⟩ := h1; exact DataW.trod_lt m _ _ _ hm
  have lt2 : ∀ x ∈ p2, x.block < W.heap.size := by obtain ⟨m, hm⟩ := h2; exact DataW.trod_lt m _ _ _ hm
  have lt3 : ∀ x ∈ p3, x.block < W.heap.size := by obtain ⟨m, hm⟩ := h3; exact DataW.trod_lt m _ _ _ hm
  have k0' := h0
  have k1' := h1
  have k2' := h2
  have k3' := h3
  obtain ⟨cs0, rfl, _⟩ := okWide_struct Tryz.underlying27 (hval 0 27 v0 rfl rfl)
  obtain ⟨m0, hm0⟩ := h0
  obtain ⟨s0, a0, n0, c0, ra0, rn0, rc0, rs0, e0, S0, R0⟩ := open_liar (cs := cs0.toList) (by simpa [Value.cells] using hm0)
  obtain rfl : cs0 = (liC s0 a0 n0 c0 ra0 rn0 rc0).toArray := by rw [← e0]
  clear hm0 e0
  obtain ⟨x1, rfl⟩ := okWide_int Tryz.underlying3 (hval 1 3 v1 rfl rfl)
  obtain ⟨m1, hm1⟩ := h1
  obtain ⟨x1', e1, i1⟩ := open_int1 (cs := [.int .i64 x1]) (by simpa [Value.cells] using hm1)
  obtain rfl : x1 = x1' := by simpa using e1
  clear hm1 e1
  obtain ⟨x2, rfl⟩ := okWide_int Tryz.underlying3 (hval 2 3 v2 rfl rfl)
  obtain ⟨m2, hm2⟩ := h2
  obtain ⟨x2', e2, i2⟩ := open_int1 (cs := [.int .i64 x2]) (by simpa [Value.cells] using hm2)
  obtain rfl : x2 = x2' := by simpa using e2
  clear hm2 e2
  obtain ⟨x3, rfl⟩ := okWide_int Tryz.underlying3 (hval 3 3 v3 rfl rfl)
  obtain ⟨m3, hm3⟩ := h3
  obtain ⟨x3', e3, i3⟩ := open_int1 (cs := [.int .i64 x3]) (by simpa [Value.cells] using hm3)
  obtain rfl : x3 = x3' := by simpa using e3
  clear hm3 e3
  have hT := tabs_of_laid hL
  clear hA0 hval0
  refine (lothers_walk s0 a0 n0 c0 ra0 rn0 rc0 rs0 x1 i1 x2 i2 x3 i3 W hT S0 R0).mono fun e W' ⟨he, bel⟩ => ?_
  subst he
  exact ⟨_, rfl, _, _, _, [], _, [], hW', trodAll_mk1 (shut_bool Tryz.underlying4 _),
    (trodAll_cons_mk (Below.trod laidOut (by kernel_rfl) (of_decide_eq_true (by kernel_rfl)) k0' bel lt0) (trodAll_cons_mk (Below.trod laidOut (by kernel_rfl) (of_decide_eq_true (by kernel_rfl)) k1' bel lt1) (trodAll_cons_mk (Below.trod laidOut (by kernel_rfl) (of_decide_eq_true (by kernel_rfl)) k2' bel lt2) (trodAll_cons_mk (Below.trod laidOut (by kernel_rfl) (of_decide_eq_true (by kernel_rfl)) k3' bel lt3) trodAll_mk0)))), rfl, bel.frame _, fun h => by cases h⟩

theorem over : Rows.LiarOthersSaid :=
  OpenClaim.holds_of_wide 5 Tryz.f5 rfl rfl rfl rfl rfl rfl rfl ⟨rfl, rfl, rfl, rfl, rfl⟩ rfl rfl rfl rfl rfl (by kernel_rfl) Tryz.func5 (by kernel_rfl)
    (of_decide_eq_true (by kernel_rfl)) (by unfold Func.isWrapper; first | (rw [if_pos (by decide +kernel)]; kernel_rfl) | (rw [if_neg (by decide +kernel)]; exact ⟨rfl, rfl⟩))
    (fun os started H enc _ => lifted os started H enc)

theorem proved : Rows.LiarOthersCardSaid :=
  Claim7.holds_tied_plain_at .later [] [.data, .data] true (true, "61e2f70981a8c0bfaff58b11096e9b014427882e52d813c9818ce2f80f8e3bab") false
    over (fun _ h => by cases h) (by kernel_rfl) (fun _ h => by cases h) liarOthers_row_tie rfl ⟨rfl, rfl⟩ (by kernel_rfl) rfl
    (fun f fn hf hfn => by
      obtain rfl : f = 5 := Option.some.inj ((show Tryz.prog.funcNamed "chartroom/chartroomlaw31.LiarOthers" = some 5 by kernel_rfl).symm.trans hf) |>.symm
      obtain rfl : fn = Tryz.f5 := (Option.some.inj (Tryz.func5.symm.trans hfn)).symm
      exact ⟨by kernel_rfl, fun j t ht => by
        rw [Tryz.params5] at ht
        have hm : t ∈ [27, 3, 3, 3] := by simpa using Array.mem_of_getElem? ht
        have hall : ([27, 3, 3, 3].all fun u => !Tryz.prog.wantsStandIn u) = true := by kernel_rfl
        exact (show Tryz.prog.wantsStandIn t = false by simpa using List.all_eq_true.1 hall t hm)⟩)
    (by kernel_rfl)
#print axioms proved
end Go.Proofs.YtiionehcmoginaaGreatDoor.lawLOthers

