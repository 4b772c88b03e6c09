/- the reference's Few, Of; the law DirectoryChange walked -/
import Derived.Test.YtjmggmicnkfacaaDoorSnd
import Derived.Test.YtjmggmicnkfacaaDoorOpd
import Derived.Test.YtjmggmicnkfacaaDoorCards
import Derived.Test.YtjmggmicnkfacaaDoorTie
import Derived.SevenTiedAt
import Derived.Deep.DeepHandedRow
import Derived.Deep.DeepWitnessRowRef
namespace Go.Proofs.YtjmggmicnkfacaaDoor
open Go.RowKit Go.Mem
open Go.Dr (Lst Rt Dir exL)

def fewDB (D : Dir) : Bool := decide (D.ls.length ≤ 20) && decide (D.rs.length ≤ 20)
set_option maxHeartbeats 1000000 in
theorem rfew_any (D : Dir) (la : Option Addr) (ln lc : Nat) (ra : Option Addr) (rn rc : Nat) (h1 : D.ls.length = ln) (h2 : D.rs.length = rn) (w : World) :
    Calls Tryd.prog 21 #[.agg (dirC D.priv la ln lc ra rn rc).toArray] w (RetBo (fewDB D) w) := by
  have e : fewDB D = (decide (ln ≤ 20) && decide (rn ≤ 20)) := by unfold fewDB; rw [h1, h2]
  have e' := Lib.hid e
  clear e h1 h2
  obtain ⟨tb, htb⟩ : ∃ tb, Hid (w.heap.size = tb) := ⟨_, rfl⟩
  obtain ⟨V, hV⟩ : ∃ V, Hid (fewDB D = V) := ⟨_, rfl⟩
  rw [hV.out] at e' ⊢
  go_enter Tryd.func21, Tryd.ntmps21
  go_upto_region 1 with fail
  rw [htb.out]
  generalize hW : World.alloc _ _ = W
  have hB : Blk W tb 45 (dirC D.priv la ln lc ra rn rc) := by rw [← hW, ← htb.out]; exact Blk.new w _ (dirC D.priv la ln lc ra rn rc)
  have hb : Below w.heap.size w W := by rw [← hW]; exact (Below.refl _ w).alloc (Nat.le_refl _) _
  clear hW
  have c1 := hB.at_ (i := 1) (x := .slice la ln lc) rfl
  have c2 := hB.at_ (i := 2) (x := .slice ra rn rc) rfl
  by_cases g1 : ln ≤ 20
  · have g1' : decide ((ln : Int) ≤ 20) = true := by simp; omega
    by_cases g2 : rn ≤ 20
    · have g2' : decide ((rn : Int) ≤ 20) = true := by simp; omega
      have hv : Hid (V = true) := by have := e'.out; rw [decide_eq_true g1, decide_eq_true g2] at this; exact this
      go_wp2_with fail
      go_ret
      exact ⟨by rw [hv.out]; rfl, hb⟩
    · have g2' : decide ((rn : Int) ≤ 20) = false := by simp; omega
      have hv : Hid (V = false) := by have := e'.out; rw [decide_eq_true g1, decide_eq_false g2] at this; exact this
      go_wp2_with fail
      go_ret
      exact ⟨by rw [hv.out]; rfl, hb⟩
  · have g1' : decide ((ln : Int) ≤ 20) = false := by simp; omega
    have hv : Hid (V = false) := by have := e'.out; rw [decide_eq_false g1] at this; exact this
    go_wp2_with fail
    go_ret
    exact ⟨by rw [hv.out]; rfl, hb⟩

def ROfPost (l : List Lst) (dev : Int) (w : World) (e : Ending) (w' : World) : Prop := e = .returned (.tuple #[.agg (gC (Go.Dr.ofZ l dev)).toArray, .bool (Go.Dr.ofL l dev).isSome]) ∧ Below w.heap.size w w'
set_option maxRecDepth 20000 in
set_option maxHeartbeats 4000000 in
theorem rof_any (K : Nat → Prop) (a : Option Addr) (n c : Nat) (l : List Lst) (dev : Int) (w : World) (H : GS K w a n c l) :
    Calls Tryd.prog 22 #[.slice a n c, .int .i64 dev] w (ROfPost l dev w) := by
  have H' := Lib.hid H
  have hlen := RS.len H
  have n63 : (n : Int) ≤ 9223372036854775807 := by have := RS.le H; have := RS.max H; omega
  clear H
  obtain ⟨tb, htb⟩ : ∃ tb, Hid (w.heap.size = tb) := ⟨_, rfl⟩
  obtain ⟨X, hX⟩ : ∃ X, X = ROfPost l dev w := ⟨_, rfl⟩
  have hf1 : Hid (∀ x W, Go.Dr.ofL l dev = some x → Below w.heap.size w W → X (.returned (.tuple #[.agg (gC x).toArray, .bool true])) W) := fun x W h1 h2 => by
    rw [hX]; exact ⟨by unfold Go.Dr.ofZ; rw [h1]; rfl, h2⟩
  have hf2 : Hid (∀ W, Go.Dr.ofL l dev = none → Below w.heap.size w W → X (.returned (.tuple #[.agg (gC Go.Dr.zeroL).toArray, .bool false])) W) := fun W h1 h2 => by
    rw [hX]; exact ⟨by unfold Go.Dr.ofZ; rw [h1]; rfl, h2⟩
  rw [← hX]
  clear hX
  go_enter Tryd.func22, Tryd.ntmps22
  go_upto_region 1 with fail
  rw [htb.out]
  generalize hW : World.alloc _ _ = W
  have hD : Hid (Blk W tb 32 zG) := by rw [← hW, ← htb.out]; exact Blk.new w _ zG
  have hb : Hid (Below w.heap.size w W) := by rw [← hW]; exact (Below.refl _ w).alloc (Nat.le_refl _) _
  clear hW
  have hG := Lib.hid (H'.out.below hb.out)
  go_wp2_with fail
  go_loopw [6] (fun i wr => ∃ k : Nat, k ≤ n ∧ i = .int .i64 k ∧ Hid (∀ (j : Nat) x, j < k → l[j]? = some x → x.dev ≠ dev) ∧ Hid (wr = W)) (fun i _ => n - (intOf i).toNat)
  case atStart => exact ⟨0, Nat.zero_le _, rfl, fun _ _ h => absurd h (by omega), rfl⟩
  case round =>
    obtain ⟨k, hk, rfl, hno, hwr⟩ := hrel
    have hwr' := hwr.out
    subst hwr'
    by_cases hlt : k < n
    · have hkl : k < l.length := by omega
      obtain ⟨x, hx⟩ : ∃ x, l[k]? = some x := ⟨_, List.getElem?_eq_getElem hkl⟩
      obtain ⟨b2, off, rfl, hbl, _, hox, hrg⟩ := GS.cells hG.out hx
      have x0 : wr.cell? ⟨b2, off + k * 5, none⟩ = some (.int .i64 x.dev) := by have := hrg 0 _ rfl; rwa [Nat.add_zero] at this
      have k0 : (0 : Int) ≤ (k : Int) := by omega
      have k1 : (k : Int) < (n : Int) := by omega
      by_cases hde : x.dev = dev
      · have hde' : (x.dev == dev) = true := by simpa using hde
        have hof := Go.Dr.ofL_at hx hde hno.out
        have hri : Hid ((Tryd.prog.info? 32).map (·.size) = some (gC x).length) := sizeG
        obtain ⟨W5, hP⟩ := put_row (ty := 32) hD.out (x := gC x) rfl sizeG (gC_one x)
        have hfin := Lib.hid (hf1.out x W5 hof (below_grown hb.out hP.grown hb.out.size (by have := htb.out; omega)))
        have hrg' := Lib.hid hrg
        have hP' := Lib.hid hP
        obtain ⟨r, hr⟩ : ∃ r, Hid (gC x = r) := ⟨_, rfl⟩
        rw [hr.out] at hrg' hri hP' hfin
        clear hrg hx hkl hof hP hde hf1 hf2
        go_wp2_with (first
          | (refine wpList_load_mid (by rfl) 32 (.tmp 22) (by rfl) b2 (off + k * 5) (by rfl) r _ hrg'.out Tryd.underlying32 (by rfl) hri.out ?_)
          | (refine wpList_store_mid (by rfl) 32 (.tmp 4) (.tmp 23) (by rfl) tb 0 r.toArray (by rfl) (by rfl) hP'.out.there hP'.out.info (by simpa using hP'.out.one) ?_
             generalize hWq : World.setCells _ _ _ _ = Wa
             obtain rfl : W5 = Wa := by rw [← hWq]; exact hP'.out.eq
             clear hWq))
        exact ret_cell_tmp (p := 4) (u := 5) rfl hP'.out.blk Tryd.underlying32 rfl hri.out rfl rfl rfl hfin.out
      · have hde' : (x.dev == dev) = false := by simpa using hde
        have hno2 : Hid (∀ (j : Nat) x, j < k + 1 → l[j]? = some x → x.dev ≠ dev) := fun j y hj hy => by
          by_cases hjk : j = k
          · subst hjk; rw [hx] at hy; cases hy; exact hde
          · exact hno.out j y (by omega) hy
        clear hrg hx hkl hde hno
        go_wp2_with fail
        go_roundw
        case rel => exact ⟨k + 1, by omega, by go_num, hno2, (by first | exact (rfl : _ = _) | exact True.intro)⟩
        case measure => simp [intOf]; omega
    · obtain rfl : k = n := by omega
      obtain ⟨W5, hP⟩ := put_row (ty := 32) hD.out (x := gC Go.Dr.zeroL) rfl sizeG (gC_one _)
      have hfin := Lib.hid (hf2.out W5 (Go.Dr.ofL_none fun j x hx => hno.out j x (by have := (List.getElem?_eq_some_iff.1 hx).1; omega) hx) (below_grown hb.out hP.grown hb.out.size (by have := htb.out; omega)))
      have hP' := Lib.hid hP
      clear hP hf1 hf2 hno
      go_wp2_with (first
        | (refine wpList_store_mid (by rfl) 32 (.tmp 4) (.tmp 24) (by rfl) tb 0 (gC Go.Dr.zeroL).toArray (by rfl) (by rfl) hP'.out.there hP'.out.info (by simpa using hP'.out.one) ?_
           generalize hWq : World.setCells _ _ _ _ = Wa
           obtain rfl : W5 = Wa := by rw [← hWq]; exact hP'.out.eq
           clear hWq))
      exact ret_cell_tmp (p := 4) (u := 5) rfl hP'.out.blk Tryd.underlying32 rfl sizeG rfl rfl rfl hfin.out
theorem and511 (x : Int) : 0 ≤ bits BinOp.and IntKind.i64 x 511 ∧ bits BinOp.and IntKind.i64 x 511 < 512 := by
  have h : (BitVec.ofInt 64 x &&& BitVec.ofInt 64 511).toNat ≤ 511 := by
    rw [BitVec.toNat_and, show (BitVec.ofInt 64 511).toNat = 511 by decide]
    exact Nat.and_le_right
  have e : bits BinOp.and IntKind.i64 x 511 = IntKind.i64.wrap ((BitVec.ofInt 64 x &&& BitVec.ofInt 64 511).toNat : Int) := rfl
  rw [e, IntWalk.i64_in _ (by omega)]
  omega

theorem setL0 (y : Lst) (d : Int) : (gC y).set 0 (.int .i64 d) = gC { y with dev := d } := rfl
set_option maxRecDepth 100000 in
set_option maxHeartbeats 20000000 in
theorem change_walk (D : Dir) (la : Option Addr) (ln lc : Nat) (ra : Option Addr) (rn rc : Nat) (x : Lst) (hx : OkG x) (other : Int) (_ho : I64 other) (w : World) (HT : Tabs w) (H : DM (fun _ => True) w D la ln lc ra rn rc) :
    Calls Tryd.prog 6 #[.agg (dirC D.priv la ln lc ra rn rc).toArray, .agg (gC x).toArray, .int .i64 other] w (RetBo true w) := by
  have HT' := Lib.hid HT; have hx' := Lib.hid hx
  have hln : Hid (D.ls.length = ln) := RS.len H.gs
  have hrn : Hid (D.rs.length = rn) := RS.len H.qs
  obtain ⟨X, hX⟩ : ∃ X, X = RetBo true w := ⟨_, rfl⟩
  have hfin : Hid (∀ W, Below w.heap.size w W → X (.returned (.bool true)) W) := fun W hb => by rw [hX]; exact ⟨rfl, hb⟩
  rw [← hX]
  clear hX
  obtain ⟨tb, htb⟩ : ∃ tb, Hid (w.heap.size = tb) := ⟨_, rfl⟩
  go_enter Tryd.func6, Tryd.ntmps6
  go_upto_region 1 with fail
  rw [htb.out]
  generalize hW : World.alloc _ _ = v0
  have hB3 : Hid (Blk v0 tb 45 (dirC D.priv la ln lc ra rn rc)) := by rw [← hW, ← htb.out]; exact (Blk.new w _ (dirC D.priv la ln lc ra rn rc)).alloc _
  have hB4 : Hid (Blk v0 (tb + 1) 32 (gC x)) := by
    rw [← hW, ← htb.out]
    have := Blk.new (w.alloc (.cells (dirC D.priv la ln lc ra rn rc).toArray 45)) 32 (gC x)
    rwa [World.size_alloc] at this
  have hbw : Hid (Below w.heap.size w v0) := by rw [← hW]; exact ((Below.refl _ w).alloc (Nat.le_refl _) _).alloc (by simp) _
  have hD := Lib.hid (H.below hbw.out)
  clear hW H HT hx
  go_wp2_with fail
  refine (sane35_any _ (HT'.out.below hbw.out)).mono ?_
  rintro e w1 ⟨rfl, hst⟩
  replace hB3 := Lib.hid (hB3.out.below hst hB3.out.lt)
  replace hB4 := Lib.hid (hB4.out.below hst hB4.out.lt)
  replace hD := Lib.hid (hD.out.below hst)
  replace hbw := Lib.hid (hbw.out.trans (hst.mono hbw.out.size))
  clear hst
  have y0 := hB3.out.at_ (i := 0) (x := .int .i64 D.priv) rfl
  have y1 := hB3.out.at_ (i := 1) (x := .slice la ln lc) rfl
  have y2 := hB3.out.at_ (i := 2) (x := .slice ra rn rc) rfl
  go_wp2_with fail
  clear y0 y1 y2
  refine (rfew_any D la ln lc ra rn rc hln.out hrn.out _).mono ?_
  rintro e w2 ⟨rfl, hst⟩
  replace hB3 := Lib.hid (hB3.out.below hst hB3.out.lt)
  replace hB4 := Lib.hid (hB4.out.below hst hB4.out.lt)
  replace hD := Lib.hid (hD.out.below hst)
  replace hbw := Lib.hid (hbw.out.trans (hst.mono hbw.out.size))
  clear hst
  cases hfw : fewDB D with
  | false =>
    have hend := Lib.hid (hfin.out _ hbw.out)
    clear hfin
    go_wp2_with fail
    exact hend.out
  | true =>
    have hsm : Hid (ln ≤ 20 ∧ rn ≤ 20) := by
      unfold fewDB at hfw
      rw [Bool.and_eq_true, decide_eq_true_iff, decide_eq_true_iff] at hfw
      have := hln.out; have := hrn.out
      show _ ∧ _
      omega
    clear hfw
    have y0 := hB3.out.at_ (i := 0) (x := .int .i64 D.priv) rfl
    have y1 := hB3.out.at_ (i := 1) (x := .slice la ln lc) rfl
    have y2 := hB3.out.at_ (i := 2) (x := .slice ra rn rc) rfl
    have l0 := hB4.out.at_ (i := 0) (x := .int .i64 x.dev) rfl
    have l1 := hB4.out.at_ (i := 1) (x := .int .i64 x.ver) rfl
    have l2 := hB4.out.at_ (i := 2) (x := .int .i64 x.leaf) rfl
    have l3 := hB4.out.at_ (i := 3) (x := .int .i64 x.vers) rfl
    have l4 := hB4.out.at_ (i := 4) (x := .bool x.gone) rfl
    go_wp2_with fail
    clear y0 y1 y2 l0 l1 l2 l3 l4
    refine (set_any (fun _ => True) D la ln lc ra rn rc x hx'.out _ (HT'.out.below hbw.out) hD.out).mono ?_
    rintro e w3 (⟨h0, la2, ln2, lc2, ra2, rn2, rc2, rfl, hD20, hst⟩ | ⟨h1, rfl, hst⟩)
    rotate_left
    · have hqq := trivial
      replace hB3 := Lib.hid (hB3.out.below hst hB3.out.lt)
      replace hB4 := Lib.hid (hB4.out.below hst hB4.out.lt)
      replace hD := Lib.hid (hD.out.below hst)
      replace hbw := Lib.hid (hbw.out.trans (hst.mono hbw.out.size))
      obtain ⟨q, hq⟩ : ∃ q, Hid ((Go.Dr.setD 4 D x).2 = q) := ⟨_, rfl⟩
      rw [hq.out] at h1 ⊢
      have hq0 : (q == 0) = false := by simpa using h1
      clear hst h1
      obtain ⟨v3, hP⟩ : ∃ V, Hid (PutR 45 (w3.alloc (.cells (dirC 0 none 0 0 none 0 0 : List Value).toArray 45)) V w3.heap.size 45 (dirC 0 none 0 0 none 0 0)) := put_row (Blk.new w3 45 (dirC 0 none 0 0 none 0 0)) rfl (sizeDr) (dr_one _ _ _ _ _ _ _)
      have hst := below_grown ((Below.refl _ w3).alloc (Nat.le_refl _) _) hP.out.grown (by simp) (Nat.le_refl _)
      replace hB3 := Lib.hid (hB3.out.below hst hB3.out.lt)
      replace hB4 := Lib.hid (hB4.out.below hst hB4.out.lt)
      replace hD := Lib.hid (hD.out.below hst)
      replace hbw := Lib.hid (hbw.out.trans (hst.mono hbw.out.size))
      clear hst
      have hB7 := Lib.hid hP.out.blk
      have z0 := hB7.out.at_ (i := 0) (x := .int .i64 0) rfl
      have z1 := hB7.out.at_ (i := 1) (x := .slice none 0 0) rfl
      have z2 := hB7.out.at_ (i := 2) (x := .slice none 0 0) rfl
      have hend := Lib.hid (hfin.out _ hbw.out)
      clear hfin
      go_wp2_with (first
        | (refine wpList_store_mid (by rfl) 45 (.tmp 7) (.tmp 29) (by rfl) w3.heap.size 0 (dirC 0 none 0 0 none 0 0).toArray (by rfl) (by rfl) hP.out.there hP.out.info (by simpa using hP.out.one) ?_
           generalize hWq : World.setCells _ _ _ _ = Wa
           obtain rfl : v3 = Wa := by rw [← hWq]; exact hP.out.eq
           clear hWq))
      exact hend.out
    · have hqq := trivial
      replace hB3 := Lib.hid (hB3.out.below hst hB3.out.lt)
      replace hB4 := Lib.hid (hB4.out.below hst hB4.out.lt)
      replace hD := Lib.hid (hD.out.below hst)
      replace hbw := Lib.hid (hbw.out.trans (hst.mono hbw.out.size))
      obtain ⟨E, hE⟩ : ∃ E, Go.Dr.setD 4 D x = (E, 0) := ⟨(Go.Dr.setD 4 D x).1, by rw [← h0]⟩
      obtain ⟨hfit, hvs, hchk, _, _, hEe⟩ := Go.Dr.set_ok hE
      obtain ⟨R, hR⟩ : ∃ R, Hid (Go.Dr.nextR 4 ⟨D.priv, Go.Dr.insL x D.ls, D.rs⟩ = R) := ⟨_, rfl⟩
      have hRd : Hid (R.dig = Go.Dr.rootD (Go.Dr.insL x D.ls)) := by rw [← hR.out]; rfl
      rw [hR.out] at hEe
      have hE1 : (Go.Dr.setD 4 D x).1 = ⟨D.priv, Go.Dr.insL x D.ls, D.rs ++ [R]⟩ := by rw [hE, hEe]
      rw [hE1] at hD20 ⊢
      have hD2 : Hid (DM (fun _ => True) w3 ⟨D.priv, Go.Dr.insL x D.ls, D.rs ++ [R]⟩ la2 ln2 lc2 ra2 rn2 rc2) := hD20.imp fun _ _ _ => trivial
      have hrn2 : Hid (rn2 = rn + 1) := by have h := RS.len hD20.qs; rw [List.length_append] at h; have := hrn.out; show _ = _; simp at h; omega
      have hdev := Lib.hid (Go.Dr.fits_dev hfit)
      have hvb : Hid (x.vers = (Go.Dr.ofZ D.ls x.dev).vers + 1 ∧ 0 ≤ (Go.Dr.ofZ D.ls x.dev).vers ∧ (Go.Dr.ofZ D.ls x.dev).vers ≤ 1048576) := by
        rw [Go.Dr.oldV_ofZ] at hvs
        refine ⟨hvs, ?_⟩
        have := Go.Dr.fits_vers hfit
        omega
      clear hst h0 hE hfit hvs hchk hEe hE1 hD20 hR
      obtain ⟨v3, hP⟩ : ∃ V, Hid (PutR 45 (w3.alloc (.cells (dirC 0 none 0 0 none 0 0 : List Value).toArray 45)) V w3.heap.size 45 (dirC D.priv la2 ln2 lc2 ra2 rn2 rc2)) := put_row (Blk.new w3 45 (dirC 0 none 0 0 none 0 0)) rfl (sizeDr) (dr_one _ _ _ _ _ _ _)
      have hst := below_grown ((Below.refl _ w3).alloc (Nat.le_refl _) _) hP.out.grown (by simp) (Nat.le_refl _)
      replace hB3 := Lib.hid (hB3.out.below hst hB3.out.lt)
      replace hB4 := Lib.hid (hB4.out.below hst hB4.out.lt)
      replace hD := Lib.hid (hD.out.below hst)
      replace hD2 := Lib.hid (hD2.out.below hst)
      replace hbw := Lib.hid (hbw.out.trans (hst.mono hbw.out.size))
      clear hst
      have hB7 := Lib.hid hP.out.blk
      have z0 := hB7.out.at_ (i := 0) (x := .int .i64 D.priv) rfl
      have z1 := hB7.out.at_ (i := 1) (x := .slice la2 ln2 lc2) rfl
      have z2 := hB7.out.at_ (i := 2) (x := .slice ra2 rn2 rc2) rfl
      have y0 := hB3.out.at_ (i := 0) (x := .int .i64 D.priv) rfl
      have y1 := hB3.out.at_ (i := 1) (x := .slice la ln lc) rfl
      have y2 := hB3.out.at_ (i := 2) (x := .slice ra rn rc) rfl
      have l0 := hB4.out.at_ (i := 0) (x := .int .i64 x.dev) rfl
      have l1 := hB4.out.at_ (i := 1) (x := .int .i64 x.ver) rfl
      have l2 := hB4.out.at_ (i := 2) (x := .int .i64 x.leaf) rfl
      have l3 := hB4.out.at_ (i := 3) (x := .int .i64 x.vers) rfl
      have l4 := hB4.out.at_ (i := 4) (x := .bool x.gone) rfl
      have hsm1 := hsm.out.1
      have hsm2 := hsm.out.2
      have rn20 : (rn : Int) ≤ 20 := by omega
      have rn0 : (0 : Int) ≤ (rn : Int) := by omega
      have hne2 : ((rn2 : Int) == (rn : Int) + 1) = true := by have := hrn2.out; simp; omega
      go_wp2_with (first
        | (refine wpList_store_mid (by rfl) 45 (.tmp 7) (.tmp 29) (by rfl) w3.heap.size 0 (dirC D.priv la2 ln2 lc2 ra2 rn2 rc2).toArray (by rfl) (by rfl) hP.out.there hP.out.info (by simpa using hP.out.one) ?_
           generalize hWq : World.setCells _ _ _ _ = Wa
           obtain rfl : v3 = Wa := by rw [← hWq]; exact hP.out.eq
           clear hWq))
      clear y0 y1 y2 z0 z1 z2 l0 l1 l2 l3 l4 hP hne2
      obtain ⟨yo, hyo⟩ : ∃ y, Hid (Go.Dr.ofZ D.ls x.dev = y) := ⟨_, rfl⟩
      obtain ⟨bo, hbo⟩ : ∃ b, Hid ((Go.Dr.ofL D.ls x.dev).isSome = b) := ⟨_, rfl⟩
      have hof1 : Hid (∀ W, GS (fun _ => True) W la ln lc D.ls → Calls Tryd.prog 22 #[.slice la ln lc, .int .i64 x.dev] W (fun e w' => e = .returned (.tuple #[.agg (gC yo).toArray, .bool bo]) ∧ Below W.heap.size W w')) := fun W hG => by
        have h := rof_any (fun _ => True) la ln lc D.ls x.dev W hG
        unfold ROfPost at h
        rw [hyo.out, hbo.out] at h
        exact h
      rw [hyo.out] at hvb
      refine (hof1.out _ hD.out.gs).mono ?_
      rintro e w4 ⟨rfl, hst⟩
      replace hB3 := Lib.hid (hB3.out.below hst hB3.out.lt)
      replace hB4 := Lib.hid (hB4.out.below hst hB4.out.lt)
      replace hD := Lib.hid (hD.out.below hst)
      replace hD2 := Lib.hid (hD2.out.below hst)
      replace hB7 := Lib.hid (hB7.out.below hst hB7.out.lt)
      replace hbw := Lib.hid (hbw.out.trans (hst.mono hbw.out.size))
      clear hst hof1
      obtain ⟨v4, hP⟩ : ∃ V, Hid (PutR 32 (w4.alloc (.cells (zG : List Value).toArray 32)) V w4.heap.size 32 (gC yo)) := put_row (Blk.new w4 32 (zG)) rfl (sizeG) (gC_one _)
      have hst := below_grown ((Below.refl _ w4).alloc (Nat.le_refl _) _) hP.out.grown (by simp) (Nat.le_refl _)
      replace hB3 := Lib.hid (hB3.out.below hst hB3.out.lt)
      replace hB4 := Lib.hid (hB4.out.below hst hB4.out.lt)
      replace hD := Lib.hid (hD.out.below hst)
      replace hD2 := Lib.hid (hD2.out.below hst)
      replace hB7 := Lib.hid (hB7.out.below hst hB7.out.lt)
      replace hbw := Lib.hid (hbw.out.trans (hst.mono hbw.out.size))
      clear hst
      have hB10 := Lib.hid hP.out.blk
      have z0 := hB7.out.at_ (i := 0) (x := .int .i64 D.priv) rfl
      have z1 := hB7.out.at_ (i := 1) (x := .slice la2 ln2 lc2) rfl
      have z2 := hB7.out.at_ (i := 2) (x := .slice ra2 rn2 rc2) rfl
      have y0 := hB3.out.at_ (i := 0) (x := .int .i64 D.priv) rfl
      have y1 := hB3.out.at_ (i := 1) (x := .slice la ln lc) rfl
      have y2 := hB3.out.at_ (i := 2) (x := .slice ra rn rc) rfl
      have l0 := hB4.out.at_ (i := 0) (x := .int .i64 x.dev) rfl
      have l1 := hB4.out.at_ (i := 1) (x := .int .i64 x.ver) rfl
      have l2 := hB4.out.at_ (i := 2) (x := .int .i64 x.leaf) rfl
      have l3 := hB4.out.at_ (i := 3) (x := .int .i64 x.vers) rfl
      have l4 := hB4.out.at_ (i := 4) (x := .bool x.gone) rfl
      go_wp2_with (first
        | (refine wpList_store_mid (by rfl) 32 (.tmp 10) (.tmp 58) (by rfl) w4.heap.size 0 (gC yo).toArray (by rfl) (by rfl) hP.out.there hP.out.info (by simpa using hP.out.one) ?_
           generalize hWq : World.setCells _ _ _ _ = Wa
           obtain rfl : v4 = Wa := by rw [← hWq]; exact hP.out.eq
           clear hWq))
      clear y0 y1 y2 z0 z1 z2 l0 l1 l2 l3 l4 hP
      refine (prove_at hdev.out (HT'.out.below hbw.out) hD2.out.gs).mono ?_
      rintro e w5 ⟨pa, pc, rfl, hS10, hst⟩
      replace hB3 := Lib.hid (hB3.out.below hst hB3.out.lt)
      replace hB4 := Lib.hid (hB4.out.below hst hB4.out.lt)
      replace hD := Lib.hid (hD.out.below hst)
      replace hD2 := Lib.hid (hD2.out.below hst)
      replace hB7 := Lib.hid (hB7.out.below hst hB7.out.lt)
      replace hB10 := Lib.hid (hB10.out.below hst hB10.out.lt)
      replace hbw := Lib.hid (hbw.out.trans (hst.mono hbw.out.size))
      have hS1 := Lib.hid hS10
      clear hst hS10
      obtain ⟨dv, hdv⟩ : ∃ d, bits BinOp.and IntKind.i64 other 511 = d := ⟨_, rfl⟩
      have hdvb : Hid (0 ≤ dv ∧ dv < 512) := by have := and511 other; rw [hdv] at this; exact this
      obtain ⟨yz, hyz⟩ : ∃ y, Hid (Go.Dr.ofZ D.ls dv = y) := ⟨_, rfl⟩
      obtain ⟨bz, hbz⟩ : ∃ b, Hid ((Go.Dr.ofL D.ls dv).isSome = b) := ⟨_, rfl⟩
      obtain ⟨ry, hry⟩ : ∃ r, Hid (gC yz = r) := ⟨_, rfl⟩
      have hof2 : Hid (∀ W, GS (fun _ => True) W la ln lc D.ls → Calls Tryd.prog 22 #[.slice la ln lc, .int .i64 dv] W (fun e w' => e = .returned (.tuple #[.agg ry.toArray, .bool bz]) ∧ Below W.heap.size W w')) := fun W hG => by
        have h := rof_any (fun _ => True) la ln lc D.ls dv W hG
        unfold ROfPost at h
        rw [hyz.out, hbz.out, hry.out] at h
        exact h
      have hyzo : Hid (OkG yz) := by
        rw [← hyz.out]
        show OkG _
        unfold Go.Dr.ofZ
        cases e : Go.Dr.ofL D.ls dv with
        | none => exact ⟨i64_0, i64_0, i64_0, i64_0⟩
        | some y => exact hD.out.gs.ok (List.mem_of_find?_eq_some e)
      have z0 := hB7.out.at_ (i := 0) (x := .int .i64 D.priv) rfl
      have z1 := hB7.out.at_ (i := 1) (x := .slice la2 ln2 lc2) rfl
      have z2 := hB7.out.at_ (i := 2) (x := .slice ra2 rn2 rc2) rfl
      have y0 := hB3.out.at_ (i := 0) (x := .int .i64 D.priv) rfl
      have y1 := hB3.out.at_ (i := 1) (x := .slice la ln lc) rfl
      have y2 := hB3.out.at_ (i := 2) (x := .slice ra rn rc) rfl
      have l0 := hB4.out.at_ (i := 0) (x := .int .i64 x.dev) rfl
      have l1 := hB4.out.at_ (i := 1) (x := .int .i64 x.ver) rfl
      have l2 := hB4.out.at_ (i := 2) (x := .int .i64 x.leaf) rfl
      have l3 := hB4.out.at_ (i := 3) (x := .int .i64 x.vers) rfl
      have l4 := hB4.out.at_ (i := 4) (x := .bool x.gone) rfl
      go_wp2_with fail
      clear y0 y1 y2 z0 z1 z2 l0 l1 l2 l3 l4 hdv
      refine (hof2.out _ hD.out.gs).mono ?_
      rintro e w6 ⟨rfl, hst⟩
      replace hB3 := Lib.hid (hB3.out.below hst hB3.out.lt)
      replace hB4 := Lib.hid (hB4.out.below hst hB4.out.lt)
      replace hD := Lib.hid (hD.out.below hst)
      replace hD2 := Lib.hid (hD2.out.below hst)
      replace hB7 := Lib.hid (hB7.out.below hst hB7.out.lt)
      replace hB10 := Lib.hid (hB10.out.below hst hB10.out.lt)
      replace hS1 := Lib.hid (hS1.out.below hst)
      replace hbw := Lib.hid (hbw.out.trans (hst.mono hbw.out.size))
      clear hst hof2
      obtain ⟨v6, hP, hb6⟩ := box_g w6 yz
      obtain ⟨zb, hzb⟩ : ∃ zb, Hid (w6.heap.size = zb) := ⟨_, rfl⟩
      have hPz := Lib.hid hP
      rw [hzb.out] at hPz
      have hBz0 := hPz.out.blk
      rw [hry.out] at hPz
      clear hP
      by_cases hde : dv = x.dev
      · have hcase := trivial
        obtain ⟨v7, hQ⟩ := put_row (ty := 32) hBz0 (x := gC x) rfl sizeG (gC_one x)
        have hQ' := Lib.hid hQ
        have hb7 : Below w6.heap.size w6 v7 := below_grown hb6 hQ.grown hb6.size (by rw [hzb.out]; exact Nat.le_refl _)
        have hBz7 := hQ.blk
        have hxr := Lib.hid (hB4.out.below hb6 hB4.out.lt).range
        have hxi : Hid ((Tryd.prog.info? 32).map (·.size) = some (gC x).length) := sizeG
        have hdc : (dv == x.dev) = true := by simpa using hde
        have hdeh := Lib.hid hde
        clear hde
        obtain ⟨rx, hrx⟩ : ∃ r, Hid (gC x = r) := ⟨_, rfl⟩
        rw [hrx.out] at hQ' hxr hxi
        clear hQ
        have f7 := hBz7.frozen 0
        have n7 := hBz7.at_ (i := 0) (x := .int .i64 x.dev) rfl
        have hg8 : World.grownBy v7 (World.setCell v7 ⟨zb, 0, none⟩ (.int .i64 dv)) (some zb) := grown_set (World.grownBy.refl v7 _) (.inl rfl) _
        have hBz : Hid (Blk (World.setCell v7 ⟨zb, 0, none⟩ (.int .i64 dv)) zb 32 (gC { x with dev := dv })) := hBz7.set 0 _
        have hst : Below w6.heap.size w6 (World.setCell v7 ⟨zb, 0, none⟩ (.int .i64 dv)) := hb7.grown hg8 hb7.size (fun r e => by cases e; rw [hzb.out]; exact Nat.le_refl _)
        have y2 : World.cell? v6 ⟨tb, 2, none⟩ = some (.slice ra rn rc) := (hB3.out.below hb6 hB3.out.lt).at_ (i := 2) rfl
        have z1 : World.cell? v6 ⟨w3.heap.size, 1, none⟩ = some (.slice la2 ln2 lc2) := (hB7.out.below hb6 hB7.out.lt).at_ (i := 1) rfl
        have l0 : World.cell? v6 ⟨tb + 1, 0, none⟩ = some (.int .i64 x.dev) := (hB4.out.below hb6 hB4.out.lt).at_ (i := 0) rfl
        have l1 : World.cell? v6 ⟨tb + 1, 1, none⟩ = some (.int .i64 x.ver) := (hB4.out.below hb6 hB4.out.lt).at_ (i := 1) rfl
        have l2 : World.cell? v6 ⟨tb + 1, 2, none⟩ = some (.int .i64 x.leaf) := (hB4.out.below hb6 hB4.out.lt).at_ (i := 2) rfl
        have l3 : World.cell? v6 ⟨tb + 1, 3, none⟩ = some (.int .i64 x.vers) := (hB4.out.below hb6 hB4.out.lt).at_ (i := 3) rfl
        have l4 : World.cell? v6 ⟨tb + 1, 4, none⟩ = some (.bool x.gone) := (hB4.out.below hb6 hB4.out.lt).at_ (i := 4) rfl
        have y2b : World.cell? v7 ⟨tb, 2, none⟩ = some (.slice ra rn rc) := (hB3.out.below hb7 hB3.out.lt).at_ (i := 2) rfl
        have z1b : World.cell? v7 ⟨w3.heap.size, 1, none⟩ = some (.slice la2 ln2 lc2) := (hB7.out.below hb7 hB7.out.lt).at_ (i := 1) rfl
        have m0 : World.cell? v7 ⟨tb + 1, 0, none⟩ = some (.int .i64 x.dev) := (hB4.out.below hb7 hB4.out.lt).at_ (i := 0) rfl
        have m1 : World.cell? v7 ⟨tb + 1, 1, none⟩ = some (.int .i64 x.ver) := (hB4.out.below hb7 hB4.out.lt).at_ (i := 1) rfl
        have m2 : World.cell? v7 ⟨tb + 1, 2, none⟩ = some (.int .i64 x.leaf) := (hB4.out.below hb7 hB4.out.lt).at_ (i := 2) rfl
        have m3 : World.cell? v7 ⟨tb + 1, 3, none⟩ = some (.int .i64 x.vers) := (hB4.out.below hb7 hB4.out.lt).at_ (i := 3) rfl
        have m4 : World.cell? v7 ⟨tb + 1, 4, none⟩ = some (.bool x.gone) := (hB4.out.below hb7 hB4.out.lt).at_ (i := 4) rfl
        have y2c : World.cell? (v7.setCell ⟨zb, 0, none⟩ (.int .i64 dv)) ⟨tb, 2, none⟩ = some (.slice ra rn rc) := (hB3.out.below hst hB3.out.lt).at_ (i := 2) rfl
        have z1c : World.cell? (v7.setCell ⟨zb, 0, none⟩ (.int .i64 dv)) ⟨w3.heap.size, 1, none⟩ = some (.slice la2 ln2 lc2) := (hB7.out.below hst hB7.out.lt).at_ (i := 1) rfl
        have o0 : World.cell? (v7.setCell ⟨zb, 0, none⟩ (.int .i64 dv)) ⟨tb + 1, 0, none⟩ = some (.int .i64 x.dev) := (hB4.out.below hst hB4.out.lt).at_ (i := 0) rfl
        have o1 : World.cell? (v7.setCell ⟨zb, 0, none⟩ (.int .i64 dv)) ⟨tb + 1, 1, none⟩ = some (.int .i64 x.ver) := (hB4.out.below hst hB4.out.lt).at_ (i := 1) rfl
        have o2 : World.cell? (v7.setCell ⟨zb, 0, none⟩ (.int .i64 dv)) ⟨tb + 1, 2, none⟩ = some (.int .i64 x.leaf) := (hB4.out.below hst hB4.out.lt).at_ (i := 2) rfl
        have o3 : World.cell? (v7.setCell ⟨zb, 0, none⟩ (.int .i64 dv)) ⟨tb + 1, 3, none⟩ = some (.int .i64 x.vers) := (hB4.out.below hst hB4.out.lt).at_ (i := 3) rfl
        have o4 : World.cell? (v7.setCell ⟨zb, 0, none⟩ (.int .i64 dv)) ⟨tb + 1, 4, none⟩ = some (.bool x.gone) := (hB4.out.below hst hB4.out.lt).at_ (i := 4) rfl
        go_wp2_with (first
          | (rw [hzb.out]; refine wpList_store_mid (by rfl) 32 (.tmp 15) (.tmp 75) (by rfl) zb 0 ry.toArray (by rfl) (by rfl) hPz.out.there hPz.out.info (by simpa using hPz.out.one) ?_
             generalize hWq : World.setCells _ _ _ _ = Wa
             obtain rfl : v6 = Wa := by rw [← hWq]; exact hPz.out.eq
             clear hWq)
          | (refine wpList_load_mid (by rfl) 32 (.tmp 4) (by rfl) (tb + 1) 0 (by rfl) rx _ hxr.out Tryd.underlying32 (by rfl) hxi.out ?_)
          | (refine wpList_store_mid (by rfl) 32 (.tmp 15) (.tmp 81) (by rfl) zb 0 rx.toArray (by rfl) (by rfl) hQ'.out.there hQ'.out.info (by simpa using hQ'.out.one) ?_
             generalize hWq : World.setCells _ _ _ _ = Wa
             obtain rfl : v7 = Wa := by rw [← hWq]; exact hQ'.out.eq
             clear hWq))
        clear f7 n7 y2 z1 l0 l1 l2 l3 l4 y2c z1c o0 o1 o2 o3 o4 y2b z1b m0 m1 m2 m3 m4
        generalize World.setCell v7 ⟨zb, 0, none⟩ (.int .i64 dv) = w7 at *
        replace hB3 := Lib.hid (hB3.out.below hst hB3.out.lt)
        replace hB4 := Lib.hid (hB4.out.below hst hB4.out.lt)
        replace hD := Lib.hid (hD.out.below hst)
        replace hD2 := Lib.hid (hD2.out.below hst)
        replace hB7 := Lib.hid (hB7.out.below hst hB7.out.lt)
        replace hB10 := Lib.hid (hB10.out.below hst hB10.out.lt)
        replace hS1 := Lib.hid (hS1.out.below hst)
        replace hbw := Lib.hid (hbw.out.trans (hst.mono hbw.out.size))
        clear hst hg8 hb7 hBz7 hBz0 hb6 hPz hQ' hxr hxi
        have hzz : Hid (Go.Dr.verP (Go.Dr.rootD (Go.Dr.insL x D.ls)) { x with dev := dv } (!true) (Go.Dr.pathD (Go.Dr.insL x D.ls) dv) = true) := Go.Dr.change_other hdvb.out (.inl ⟨hdeh.out, by rw [hdeh.out], rfl⟩)
        have hzo : Hid (OkG { x with dev := dv }) := ⟨⟨by have := hdvb.out; show _ ≤ dv; omega, by have := hdvb.out; show dv ≤ _; omega⟩, hx'.out.ver, hx'.out.leaf, hx'.out.vers⟩
        obtain ⟨zf, hzf⟩ : ∃ z : Lst, Hid ({ x with dev := dv } = z) := ⟨_, rfl⟩
        rw [hzf.out] at hzz hzo hBz
        clear hdeh hdc hzf
        refine (prove_at hdvb.out (HT'.out.below hbw.out) hD2.out.gs).mono ?_
        rintro e w8 ⟨qa, qc, rfl, hS20, hst⟩
        replace hB3 := Lib.hid (hB3.out.below hst hB3.out.lt)
        replace hB4 := Lib.hid (hB4.out.below hst hB4.out.lt)
        replace hD := Lib.hid (hD.out.below hst)
        replace hD2 := Lib.hid (hD2.out.below hst)
        replace hB7 := Lib.hid (hB7.out.below hst hB7.out.lt)
        replace hB10 := Lib.hid (hB10.out.below hst hB10.out.lt)
        replace hS1 := Lib.hid (hS1.out.below hst)
        replace hBz := Lib.hid (hBz.out.below hst hBz.out.lt)
        replace hbw := Lib.hid (hbw.out.trans (hst.mono hbw.out.size))
        have hS2 := Lib.hid hS20
        clear hst hS20
        obtain ⟨rb, ro, era, _, _, hrk, hrr0⟩ := hD2.out.qs.cells (k := rn) (x := R) (by show (D.rs ++ [R])[rn]? = some R; rw [← hrn.out]; simp)
        have hrr : Hid (w8.rangeAt rb (ro + rn * 67 + 1) (bv R.dig)) := fun j u hj => by
          have := hrr0 (1 + j) u (rC_dig hj)
          rwa [← Nat.add_assoc] at this
        subst era
        clear hrr0
        obtain ⟨D0, hD0⟩ : ∃ d, Hid (R.dig = d) := ⟨_, rfl⟩
        have hDd : Hid (Dig D0) := by rw [← hD0.out]; exact ⟨hrk.dig, hrk.digl⟩
        rw [hRd.out] at hD0
        rw [hRd.out, hD0.out] at hrr
        have zi1 : Hid ((Tryd.prog.info? 35).map (·.size) = some (bv D0).length) := by show _ = _; rw [bv_length, hDd.out.1]; exact size35
        obtain ⟨v8, hP8⟩ : ∃ V, Hid (PutR 35 (w8.alloc (.cells (bv Go.Dr.zd).toArray 35)) V w8.heap.size 35 (bv D0)) := put_row (Blk.new w8 35 (bv Go.Dr.zd)) (by rw [bv_length, bv_length, hDd.out.1]; rfl) zi1.out (bv_one _)
        have hst := below_grown ((Below.refl _ w8).alloc (Nat.le_refl _) _) hP8.out.grown (by simp) (Nat.le_refl _)
        have z2 : w8.cell? ⟨w3.heap.size, 2, none⟩ = some (.slice (some ⟨rb, ro, none⟩) rn2 rc2) := hB7.out.at_ (i := 2) rfl
        have hsub : (rn2 : Int) - 1 = (rn : Int) := by have := hrn2.out; omega
        have rn1 : (rn : Int) < (rn2 : Int) := by omega
        replace hB3 := Lib.hid (hB3.out.below hst hB3.out.lt)
        replace hB4 := Lib.hid (hB4.out.below hst hB4.out.lt)
        replace hD := Lib.hid (hD.out.below hst)
        replace hD2 := Lib.hid (hD2.out.below hst)
        replace hB7 := Lib.hid (hB7.out.below hst hB7.out.lt)
        replace hB10 := Lib.hid (hB10.out.below hst hB10.out.lt)
        replace hS1 := Lib.hid (hS1.out.below hst)
        replace hBz := Lib.hid (hBz.out.below hst hBz.out.lt)
        replace hS2 := Lib.hid (hS2.out.below hst)
        replace hbw := Lib.hid (hbw.out.trans (hst.mono hbw.out.size))
        have hB19 := Lib.hid hP8.out.blk
        clear hst
        have vy0 := hvb.out.2.1
        have vy1 := hvb.out.2.2
        have hve : (x.vers == yo.vers + 1) = true := by rw [hvb.out.1]; simp
        have hv1 := Lib.hid (fun W hT hS => verify_any D0 hDd.out x hx'.out false (Go.Dr.pathD (Go.Dr.insL x D.ls) x.dev) pa 9 pc W hT hS)
        rw [show Go.Dr.verP D0 x false (Go.Dr.pathD (Go.Dr.insL x D.ls) x.dev) = true by rw [← hD0.out]; exact Go.Dr.change hdev.out] at hv1
        have hv2 := Lib.hid (fun W hT hS => verify_any D0 hDd.out zf hzo.out (!true) (Go.Dr.pathD (Go.Dr.insL x D.ls) dv) qa 9 qc W hT hS)
        rw [hD0.out] at hzz
        rw [hzz.out] at hv2
        have hd19 := Lib.hid hB19.out.range
        have k6 := hB10.out.at_ (i := 3) (x := .int .i64 yo.vers) rfl
        have l0 := hB4.out.at_ (i := 0) (x := .int .i64 x.dev) rfl
        have l1 := hB4.out.at_ (i := 1) (x := .int .i64 x.ver) rfl
        have l2 := hB4.out.at_ (i := 2) (x := .int .i64 x.leaf) rfl
        have l3 := hB4.out.at_ (i := 3) (x := .int .i64 x.vers) rfl
        have l4 := hB4.out.at_ (i := 4) (x := .bool x.gone) rfl
        go_wp2_with (first
          | (refine wpList_load_mid (by rfl) 35 (.tmp 96) (by rfl) rb (ro + rn * 67 + 1) (by rfl) (bv D0) _ hrr.out Tryd.underlying35 (by rfl) zi1.out ?_)
          | (refine wpList_store_mid (by rfl) 35 (.tmp 19) (.tmp 97) (by rfl) w8.heap.size 0 (bv D0).toArray (by rfl) (by rfl) hP8.out.there hP8.out.info (by simpa using hP8.out.one) ?_
             generalize hWq : World.setCells _ _ _ _ = Wa
             obtain rfl : v8 = Wa := by rw [← hWq]; exact hP8.out.eq
             clear hWq)
          | (refine wpList_load_gd (by rfl) 35 (.tmp 19) (by rfl) w8.heap.size 0 (by rfl) (bv D0) _ hd19.out Tryd.underlying35 (by rfl) zi1.out ?_))
        clear l0 l1 l2 l3 l4 k6 z2 hd19
        refine (hv1.out _ (HT'.out.below hbw.out) hS1.out).mono ?_
        rintro e w9 ⟨rfl, hst⟩
        replace hB3 := Lib.hid (hB3.out.below hst hB3.out.lt)
        replace hB4 := Lib.hid (hB4.out.below hst hB4.out.lt)
        replace hD := Lib.hid (hD.out.below hst)
        replace hD2 := Lib.hid (hD2.out.below hst)
        replace hB7 := Lib.hid (hB7.out.below hst hB7.out.lt)
        replace hB10 := Lib.hid (hB10.out.below hst hB10.out.lt)
        replace hS1 := Lib.hid (hS1.out.below hst)
        replace hBz := Lib.hid (hBz.out.below hst hBz.out.lt)
        replace hS2 := Lib.hid (hS2.out.below hst)
        replace hB19 := Lib.hid (hB19.out.below hst hB19.out.lt)
        replace hbw := Lib.hid (hbw.out.trans (hst.mono hbw.out.size))
        clear hst hv1
        have hd19 := Lib.hid hB19.out.range
        have o0 := hBz.out.at_ (i := 0) (x := .int .i64 zf.dev) rfl
        have o1 := hBz.out.at_ (i := 1) (x := .int .i64 zf.ver) rfl
        have o2 := hBz.out.at_ (i := 2) (x := .int .i64 zf.leaf) rfl
        have o3 := hBz.out.at_ (i := 3) (x := .int .i64 zf.vers) rfl
        have o4 := hBz.out.at_ (i := 4) (x := .bool zf.gone) rfl
        go_wp2_with (first
          | (refine wpList_load_gd (by rfl) 35 (.tmp 19) (by rfl) w8.heap.size 0 (by rfl) (bv D0) _ hd19.out Tryd.underlying35 (by rfl) zi1.out ?_))
        refine (hv2.out _ (HT'.out.below hbw.out) hS2.out).mono ?_
        rintro e wE ⟨rfl, hst⟩
        replace hB3 := Lib.hid (hB3.out.below hst hB3.out.lt)
        replace hB4 := Lib.hid (hB4.out.below hst hB4.out.lt)
        replace hD := Lib.hid (hD.out.below hst)
        replace hD2 := Lib.hid (hD2.out.below hst)
        replace hB7 := Lib.hid (hB7.out.below hst hB7.out.lt)
        replace hB10 := Lib.hid (hB10.out.below hst hB10.out.lt)
        replace hS1 := Lib.hid (hS1.out.below hst)
        replace hBz := Lib.hid (hBz.out.below hst hBz.out.lt)
        replace hS2 := Lib.hid (hS2.out.below hst)
        replace hB19 := Lib.hid (hB19.out.below hst hB19.out.lt)
        replace hbw := Lib.hid (hbw.out.trans (hst.mono hbw.out.size))
        have hend := Lib.hid (hfin.out _ hbw.out)
        clear hfin hst hv2 o0 o1 o2 o3 o4 hd19
        go_wp2_with fail
        exact hend.out
      · have hcase := trivial
        have hb7 := hb6
        have hBz7 := hBz0
        have hdc : (dv == x.dev) = false := by simpa using hde
        have hdeh := Lib.hid hde
        clear hde
        have f7 := hBz7.frozen 0
        have n7 := hBz7.at_ (i := 0) (x := .int .i64 yz.dev) rfl
        have hg8 : World.grownBy v6 (World.setCell v6 ⟨zb, 0, none⟩ (.int .i64 dv)) (some zb) := grown_set (World.grownBy.refl v6 _) (.inl rfl) _
        have hBz : Hid (Blk (World.setCell v6 ⟨zb, 0, none⟩ (.int .i64 dv)) zb 32 (gC { yz with dev := dv })) := hBz7.set 0 _
        have hst : Below w6.heap.size w6 (World.setCell v6 ⟨zb, 0, none⟩ (.int .i64 dv)) := hb7.grown hg8 hb7.size (fun r e => by cases e; rw [hzb.out]; exact Nat.le_refl _)
        have y2 : World.cell? v6 ⟨tb, 2, none⟩ = some (.slice ra rn rc) := (hB3.out.below hb6 hB3.out.lt).at_ (i := 2) rfl
        have z1 : World.cell? v6 ⟨w3.heap.size, 1, none⟩ = some (.slice la2 ln2 lc2) := (hB7.out.below hb6 hB7.out.lt).at_ (i := 1) rfl
        have l0 : World.cell? v6 ⟨tb + 1, 0, none⟩ = some (.int .i64 x.dev) := (hB4.out.below hb6 hB4.out.lt).at_ (i := 0) rfl
        have l1 : World.cell? v6 ⟨tb + 1, 1, none⟩ = some (.int .i64 x.ver) := (hB4.out.below hb6 hB4.out.lt).at_ (i := 1) rfl
        have l2 : World.cell? v6 ⟨tb + 1, 2, none⟩ = some (.int .i64 x.leaf) := (hB4.out.below hb6 hB4.out.lt).at_ (i := 2) rfl
        have l3 : World.cell? v6 ⟨tb + 1, 3, none⟩ = some (.int .i64 x.vers) := (hB4.out.below hb6 hB4.out.lt).at_ (i := 3) rfl
        have l4 : World.cell? v6 ⟨tb + 1, 4, none⟩ = some (.bool x.gone) := (hB4.out.below hb6 hB4.out.lt).at_ (i := 4) rfl
        have y2c : World.cell? (v6.setCell ⟨zb, 0, none⟩ (.int .i64 dv)) ⟨tb, 2, none⟩ = some (.slice ra rn rc) := (hB3.out.below hst hB3.out.lt).at_ (i := 2) rfl
        have z1c : World.cell? (v6.setCell ⟨zb, 0, none⟩ (.int .i64 dv)) ⟨w3.heap.size, 1, none⟩ = some (.slice la2 ln2 lc2) := (hB7.out.below hst hB7.out.lt).at_ (i := 1) rfl
        have o0 : World.cell? (v6.setCell ⟨zb, 0, none⟩ (.int .i64 dv)) ⟨tb + 1, 0, none⟩ = some (.int .i64 x.dev) := (hB4.out.below hst hB4.out.lt).at_ (i := 0) rfl
        have o1 : World.cell? (v6.setCell ⟨zb, 0, none⟩ (.int .i64 dv)) ⟨tb + 1, 1, none⟩ = some (.int .i64 x.ver) := (hB4.out.below hst hB4.out.lt).at_ (i := 1) rfl
        have o2 : World.cell? (v6.setCell ⟨zb, 0, none⟩ (.int .i64 dv)) ⟨tb + 1, 2, none⟩ = some (.int .i64 x.leaf) := (hB4.out.below hst hB4.out.lt).at_ (i := 2) rfl
        have o3 : World.cell? (v6.setCell ⟨zb, 0, none⟩ (.int .i64 dv)) ⟨tb + 1, 3, none⟩ = some (.int .i64 x.vers) := (hB4.out.below hst hB4.out.lt).at_ (i := 3) rfl
        have o4 : World.cell? (v6.setCell ⟨zb, 0, none⟩ (.int .i64 dv)) ⟨tb + 1, 4, none⟩ = some (.bool x.gone) := (hB4.out.below hst hB4.out.lt).at_ (i := 4) rfl
        go_wp2_with (first
          | (rw [hzb.out]; refine wpList_store_mid (by rfl) 32 (.tmp 15) (.tmp 75) (by rfl) zb 0 ry.toArray (by rfl) (by rfl) hPz.out.there hPz.out.info (by simpa using hPz.out.one) ?_
             generalize hWq : World.setCells _ _ _ _ = Wa
             obtain rfl : v6 = Wa := by rw [← hWq]; exact hPz.out.eq
             clear hWq))
        clear f7 n7 y2 z1 l0 l1 l2 l3 l4 y2c z1c o0 o1 o2 o3 o4
        generalize World.setCell v6 ⟨zb, 0, none⟩ (.int .i64 dv) = w7 at *
        replace hB3 := Lib.hid (hB3.out.below hst hB3.out.lt)
        replace hB4 := Lib.hid (hB4.out.below hst hB4.out.lt)
        replace hD := Lib.hid (hD.out.below hst)
        replace hD2 := Lib.hid (hD2.out.below hst)
        replace hB7 := Lib.hid (hB7.out.below hst hB7.out.lt)
        replace hB10 := Lib.hid (hB10.out.below hst hB10.out.lt)
        replace hS1 := Lib.hid (hS1.out.below hst)
        replace hbw := Lib.hid (hbw.out.trans (hst.mono hbw.out.size))
        clear hst hg8 hb7 hBz7 hBz0 hb6 hPz
        have hzz : Hid (Go.Dr.verP (Go.Dr.rootD (Go.Dr.insL x D.ls)) { yz with dev := dv } (!bz) (Go.Dr.pathD (Go.Dr.insL x D.ls) dv) = true) := by
          refine Go.Dr.change_other hdvb.out (.inr ?_)
          cases e : Go.Dr.ofL D.ls dv with
          | none => exact .inr ⟨hdeh.out, rfl, rfl, by rw [← hbz.out, e]; rfl⟩
          | some y =>
            refine .inl ⟨hdeh.out, ?_, by rw [← hbz.out, e]; rfl⟩
            have hy : yz = y := by rw [← hyz.out]; unfold Go.Dr.ofZ; rw [e]; rfl
            have hyd := (Go.Dr.leaf_some e).1
            rw [hy, ← hyd]
        have hzo : Hid (OkG { yz with dev := dv }) := ⟨⟨by have := hdvb.out; show _ ≤ dv; omega, by have := hdvb.out; show dv ≤ _; omega⟩, hyzo.out.ver, hyzo.out.leaf, hyzo.out.vers⟩
        obtain ⟨zf, hzf⟩ : ∃ z : Lst, Hid ({ yz with dev := dv } = z) := ⟨_, rfl⟩
        rw [hzf.out] at hzz hzo hBz
        clear hdeh hdc hzf
        refine (prove_at hdvb.out (HT'.out.below hbw.out) hD2.out.gs).mono ?_
        rintro e w8 ⟨qa, qc, rfl, hS20, hst⟩
        replace hB3 := Lib.hid (hB3.out.below hst hB3.out.lt)
        replace hB4 := Lib.hid (hB4.out.below hst hB4.out.lt)
        replace hD := Lib.hid (hD.out.below hst)
        replace hD2 := Lib.hid (hD2.out.below hst)
        replace hB7 := Lib.hid (hB7.out.below hst hB7.out.lt)
        replace hB10 := Lib.hid (hB10.out.below hst hB10.out.lt)
        replace hS1 := Lib.hid (hS1.out.below hst)
        replace hBz := Lib.hid (hBz.out.below hst hBz.out.lt)
        replace hbw := Lib.hid (hbw.out.trans (hst.mono hbw.out.size))
        have hS2 := Lib.hid hS20
        clear hst hS20
        obtain ⟨rb, ro, era, _, _, hrk, hrr0⟩ := hD2.out.qs.cells (k := rn) (x := R) (by show (D.rs ++ [R])[rn]? = some R; rw [← hrn.out]; simp)
        have hrr : Hid (w8.rangeAt rb (ro + rn * 67 + 1) (bv R.dig)) := fun j u hj => by
          have := hrr0 (1 + j) u (rC_dig hj)
          rwa [← Nat.add_assoc] at this
        subst era
        clear hrr0
        obtain ⟨D0, hD0⟩ : ∃ d, Hid (R.dig = d) := ⟨_, rfl⟩
        have hDd : Hid (Dig D0) := by rw [← hD0.out]; exact ⟨hrk.dig, hrk.digl⟩
        rw [hRd.out] at hD0
        rw [hRd.out, hD0.out] at hrr
        have zi1 : Hid ((Tryd.prog.info? 35).map (·.size) = some (bv D0).length) := by show _ = _; rw [bv_length, hDd.out.1]; exact size35
        obtain ⟨v8, hP8⟩ : ∃ V, Hid (PutR 35 (w8.alloc (.cells (bv Go.Dr.zd).toArray 35)) V w8.heap.size 35 (bv D0)) := put_row (Blk.new w8 35 (bv Go.Dr.zd)) (by rw [bv_length, bv_length, hDd.out.1]; rfl) zi1.out (bv_one _)
        have hst := below_grown ((Below.refl _ w8).alloc (Nat.le_refl _) _) hP8.out.grown (by simp) (Nat.le_refl _)
        have z2 : w8.cell? ⟨w3.heap.size, 2, none⟩ = some (.slice (some ⟨rb, ro, none⟩) rn2 rc2) := hB7.out.at_ (i := 2) rfl
        have hsub : (rn2 : Int) - 1 = (rn : Int) := by have := hrn2.out; omega
        have rn1 : (rn : Int) < (rn2 : Int) := by omega
        replace hB3 := Lib.hid (hB3.out.below hst hB3.out.lt)
        replace hB4 := Lib.hid (hB4.out.below hst hB4.out.lt)
        replace hD := Lib.hid (hD.out.below hst)
        replace hD2 := Lib.hid (hD2.out.below hst)
        replace hB7 := Lib.hid (hB7.out.below hst hB7.out.lt)
        replace hB10 := Lib.hid (hB10.out.below hst hB10.out.lt)
        replace hS1 := Lib.hid (hS1.out.below hst)
        replace hBz := Lib.hid (hBz.out.below hst hBz.out.lt)
        replace hS2 := Lib.hid (hS2.out.below hst)
        replace hbw := Lib.hid (hbw.out.trans (hst.mono hbw.out.size))
        have hB19 := Lib.hid hP8.out.blk
        clear hst
        have vy0 := hvb.out.2.1
        have vy1 := hvb.out.2.2
        have hve : (x.vers == yo.vers + 1) = true := by rw [hvb.out.1]; simp
        have hv1 := Lib.hid (fun W hT hS => verify_any D0 hDd.out x hx'.out false (Go.Dr.pathD (Go.Dr.insL x D.ls) x.dev) pa 9 pc W hT hS)
        rw [show Go.Dr.verP D0 x false (Go.Dr.pathD (Go.Dr.insL x D.ls) x.dev) = true by rw [← hD0.out]; exact Go.Dr.change hdev.out] at hv1
        have hv2 := Lib.hid (fun W hT hS => verify_any D0 hDd.out zf hzo.out (!bz) (Go.Dr.pathD (Go.Dr.insL x D.ls) dv) qa 9 qc W hT hS)
        rw [hD0.out] at hzz
        rw [hzz.out] at hv2
        have hd19 := Lib.hid hB19.out.range
        have k6 := hB10.out.at_ (i := 3) (x := .int .i64 yo.vers) rfl
        have l0 := hB4.out.at_ (i := 0) (x := .int .i64 x.dev) rfl
        have l1 := hB4.out.at_ (i := 1) (x := .int .i64 x.ver) rfl
        have l2 := hB4.out.at_ (i := 2) (x := .int .i64 x.leaf) rfl
        have l3 := hB4.out.at_ (i := 3) (x := .int .i64 x.vers) rfl
        have l4 := hB4.out.at_ (i := 4) (x := .bool x.gone) rfl
        go_wp2_with (first
          | (refine wpList_load_mid (by rfl) 35 (.tmp 96) (by rfl) rb (ro + rn * 67 + 1) (by rfl) (bv D0) _ hrr.out Tryd.underlying35 (by rfl) zi1.out ?_)
          | (refine wpList_store_mid (by rfl) 35 (.tmp 19) (.tmp 97) (by rfl) w8.heap.size 0 (bv D0).toArray (by rfl) (by rfl) hP8.out.there hP8.out.info (by simpa using hP8.out.one) ?_
             generalize hWq : World.setCells _ _ _ _ = Wa
             obtain rfl : v8 = Wa := by rw [← hWq]; exact hP8.out.eq
             clear hWq)
          | (refine wpList_load_gd (by rfl) 35 (.tmp 19) (by rfl) w8.heap.size 0 (by rfl) (bv D0) _ hd19.out Tryd.underlying35 (by rfl) zi1.out ?_))
        clear l0 l1 l2 l3 l4 k6 z2 hd19
        refine (hv1.out _ (HT'.out.below hbw.out) hS1.out).mono ?_
        rintro e w9 ⟨rfl, hst⟩
        replace hB3 := Lib.hid (hB3.out.below hst hB3.out.lt)
        replace hB4 := Lib.hid (hB4.out.below hst hB4.out.lt)
        replace hD := Lib.hid (hD.out.below hst)
        replace hD2 := Lib.hid (hD2.out.below hst)
        replace hB7 := Lib.hid (hB7.out.below hst hB7.out.lt)
        replace hB10 := Lib.hid (hB10.out.below hst hB10.out.lt)
        replace hS1 := Lib.hid (hS1.out.below hst)
        replace hBz := Lib.hid (hBz.out.below hst hBz.out.lt)
        replace hS2 := Lib.hid (hS2.out.below hst)
        replace hB19 := Lib.hid (hB19.out.below hst hB19.out.lt)
        replace hbw := Lib.hid (hbw.out.trans (hst.mono hbw.out.size))
        clear hst hv1
        have hd19 := Lib.hid hB19.out.range
        have o0 := hBz.out.at_ (i := 0) (x := .int .i64 zf.dev) rfl
        have o1 := hBz.out.at_ (i := 1) (x := .int .i64 zf.ver) rfl
        have o2 := hBz.out.at_ (i := 2) (x := .int .i64 zf.leaf) rfl
        have o3 := hBz.out.at_ (i := 3) (x := .int .i64 zf.vers) rfl
        have o4 := hBz.out.at_ (i := 4) (x := .bool zf.gone) rfl
        go_wp2_with (first
          | (refine wpList_load_gd (by rfl) 35 (.tmp 19) (by rfl) w8.heap.size 0 (by rfl) (bv D0) _ hd19.out Tryd.underlying35 (by rfl) zi1.out ?_))
        refine (hv2.out _ (HT'.out.below hbw.out) hS2.out).mono ?_
        rintro e wE ⟨rfl, hst⟩
        replace hB3 := Lib.hid (hB3.out.below hst hB3.out.lt)
        replace hB4 := Lib.hid (hB4.out.below hst hB4.out.lt)
        replace hD := Lib.hid (hD.out.below hst)
        replace hD2 := Lib.hid (hD2.out.below hst)
        replace hB7 := Lib.hid (hB7.out.below hst hB7.out.lt)
        replace hB10 := Lib.hid (hB10.out.below hst hB10.out.lt)
        replace hS1 := Lib.hid (hS1.out.below hst)
        replace hBz := Lib.hid (hBz.out.below hst hBz.out.lt)
        replace hS2 := Lib.hid (hS2.out.below hst)
        replace hB19 := Lib.hid (hB19.out.below hst hB19.out.lt)
        replace hbw := Lib.hid (hbw.out.trans (hst.mono hbw.out.size))
        have hend := Lib.hid (hfin.out _ hbw.out)
        clear hfin hst hv2 o0 o1 o2 o3 o4 hd19
        go_wp2_with fail
        exact hend.out
end Go.Proofs.YtjmggmicnkfacaaDoor
namespace Go.Proofs.YtjmggmicnkfacaaDoor.lawChange
open Go.ChangeShapes Go.WideShapes Go.ChangeAt Go.RowKit Go.Mem
open Go.Proofs.YtjmggmicnkfacaaDoor

set_option maxRecDepth 100000 in
theorem lifted (os : Os) (started : os.Started) (H : Type) (enc : TypeId × Value → H) :
    ReturnsInHanded {} Tryd.checked os 6 .any (fun w args => (Rows.directoryChangeSpec.pre enc Tryd.prog Tryd.f6 [] false w args ∧ laidMetH Tryd.prog laid2 w) ∧ sizedMet enc Tryd.prog Tryd.f6 (OpenSpec.ofChange Rows.directoryChangeSpec) false w args)
      (Rows.directoryChangeSpec.post enc Tryd.prog Tryd.f6 false true false false) := by
  refine returnsInHanded_of_change_and (C := Tryd.checked) (X := fun w _ => laidMetH Tryd.prog laid2 w) (fun _ _ _ hh h => h.of_heap hh) own started (by kernel_rfl) Tryd.func6
    (ChangeSpec.witness_shaped (enc := enc) (C := Tryd.checked) (os := os) (X := fun w _ => laidMetH Tryd.prog laid2 w) false (World.doorLaid Tryd.prog 400 os) #[.agg (dirC 0 none 0 0 none 0 0).toArray, .agg (gC Go.Dr.zeroL).toArray, .int .i64 0] 8 rfl (World.shaped_of_RefB (by kernel_rfl) (by kernel_rfl)) (by kernel_rfl) (by kernel_rfl) (by kernel_rfl) (door_met os _)) ?_
  intro W base args ds gs before hval0 hW _ hwt hL _
  have hval : ∀ (j : Nat) t v, Tryd.f6.params[j]? = some t → args[j]? = some v → Value.okWide Tryd.prog W .any base t v := hval0
  have hW' := hW
  obtain ⟨p, q, hA0, hV, rfl, hfz, hnd⟩ := hW
  have hA : DataW.TrodAll enc Tryd.prog W 0 (fun _ => true) true Tryd.f6.params.toList args.toList ds p := hA0
  rw [Tryd.params6] at hA hval
  obtain ⟨v0, vs0, d0, ds0, p0, q0, hargs, rfl, rfl, h0, r0⟩ := trodAll_cons hA
  obtain ⟨v1, vs1, d1, ds1, p1, q1, rfl, rfl, rfl, h1, r1⟩ := trodAll_cons r0
  obtain ⟨v2, vs2, d2, ds2, p2, q2, rfl, rfl, rfl, h2, r2⟩ := trodAll_cons r1
  obtain ⟨rfl, rfl, rfl⟩ := trodAll_nil r2
  obtain rfl : args = #[v0, v1, v2] := by cases args; simp_all
  obtain ⟨rfl, rfl⟩ := trodVars_none hV
  have lt0 : ∀ x ∈ p0, x.block < W.heap.size := by obtain ⟨m, hm⟩ := h0; exact DataW.trod_lt m _ _ _ hm
  have lt1 : ∀ x ∈ p1, x.block < W.heap.size := by obtain ⟨m, hm⟩ := h1; exact DataW.trod_lt m _ _ _ hm
  have lt2 : ∀ x ∈ p2, x.block < W.heap.size := by obtain ⟨m, hm⟩ := h2; exact DataW.trod_lt m _ _ _ hm
  have k0' := h0
  have k1' := h1
  have k2' := h2
  obtain ⟨cs0, rfl, _⟩ := okWide_struct Tryd.underlying45 (hval 0 45 v0 rfl rfl)
  obtain ⟨m0, hm0⟩ := h0
  obtain ⟨y0, la0, ln0, lc0, ra0, rn0, rc0, e0, S0⟩ := open_dir (cs := cs0.toList) (by simpa [Value.cells] using hm0)
  obtain rfl : cs0 = (dirC y0.priv la0 ln0 lc0 ra0 rn0 rc0).toArray := by rw [← e0]
  clear hm0 e0
  obtain ⟨cs1, rfl, _⟩ := okWide_struct Tryd.underlying32 (hval 1 32 v1 rfl rfl)
  obtain ⟨m1, hm1⟩ := h1
  obtain ⟨y1, ok1, e1⟩ := open_ls (cs := cs1.toList) (by simpa [Value.cells] using hm1)
  obtain rfl : cs1 = (gC y1).toArray := by rw [← e1]
  clear hm1 e1
  obtain ⟨x2, rfl⟩ := okWide_int Tryd.underlying3 (hval 2 3 v2 rfl rfl)
  obtain ⟨m2, hm2⟩ := h2
  obtain ⟨x2', e2, i2⟩ := open_int1 (cs := [.int .i64 x2]) (by simpa [Value.cells] using hm2)
  obtain rfl : x2 = x2' := by simpa using e2
  clear hm2 e2
  have hT := tabs_of_laid hL
  clear hA0 hval0
  refine (change_walk y0 la0 ln0 lc0 ra0 rn0 rc0 y1 ok1 x2 i2 W hT S0).mono fun e W' ⟨he, bel⟩ => ?_
  subst he
  exact ⟨_, rfl, _, _, _, [], _, [], hW', trodAll_mk1 (shut_bool Tryd.underlying4 _),
    (trodAll_cons_mk (Below.trod laidOut (by kernel_rfl) (of_decide_eq_true (by kernel_rfl)) k0' bel lt0) (trodAll_cons_mk (Below.trod laidOut (by kernel_rfl) (of_decide_eq_true (by kernel_rfl)) k1' bel lt1) (trodAll_cons_mk (Below.trod laidOut (by kernel_rfl) (of_decide_eq_true (by kernel_rfl)) k2' bel lt2) trodAll_mk0))), rfl, bel.frame _, fun h => by cases h⟩

theorem over : Rows.DirectoryChangeSaid :=
  OpenClaim.holds_of_wide 6 Tryd.f6 rfl rfl rfl rfl rfl rfl rfl ⟨rfl, rfl, rfl, rfl, rfl⟩ rfl rfl rfl rfl rfl (by kernel_rfl) Tryd.func6 (by kernel_rfl)
    (of_decide_eq_true (by kernel_rfl)) (by unfold Func.isWrapper; first | (rw [if_pos (by decide +kernel)]; kernel_rfl) | (rw [if_neg (by decide +kernel)]; exact ⟨rfl, rfl⟩))
    (fun os started H enc _ => lifted os started H enc)

theorem proved : Rows.DirectoryChangeCardSaid :=
  Claim7.holds_tied_plain_at .later [] [.data, .data, .sentinel] true (true, "1557d4907a95d2214c9597103dd117e953a091d85ddce6dd943560b7cea1b4cb") false
    over (fun _ h => by cases h) (by kernel_rfl) (fun _ h => by cases h) directoryChange_row_tie rfl ⟨rfl, rfl⟩ (by kernel_rfl) rfl
    (fun f fn hf hfn => by
      obtain rfl : f = 6 := Option.some.inj ((show Tryd.prog.funcNamed "chartroom/chartroomlaw35.DirectoryChange" = some 6 by kernel_rfl).symm.trans hf) |>.symm
      obtain rfl : fn = Tryd.f6 := (Option.some.inj (Tryd.func6.symm.trans hfn)).symm
      exact ⟨by kernel_rfl, fun j t ht => by
        rw [Tryd.params6] at ht
        have hm : t ∈ [45, 32, 3] := by simpa using Array.mem_of_getElem? ht
        have hall : ([45, 32, 3].all fun u => !Tryd.prog.wantsStandIn u) = true := by kernel_rfl
        exact (show Tryd.prog.wantsStandIn t = false by simpa using List.all_eq_true.1 hall t hm)⟩)
    (by kernel_rfl)
#print axioms proved
end Go.Proofs.YtjmggmicnkfacaaDoor.lawChange

