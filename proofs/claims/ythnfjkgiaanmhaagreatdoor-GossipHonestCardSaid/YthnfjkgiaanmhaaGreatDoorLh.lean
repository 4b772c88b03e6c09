/- the law GossipHonest walked -/
import Derived.Test.YthnfjkgiaanmhaaGreatDoorGd
import Derived.Test.YthnfjkgiaanmhaaGreatDoorRe
import Derived.Test.YthnfjkgiaanmhaaGreatDoorCards
import Derived.Test.YthnfjkgiaanmhaaGreatDoorTie
import Derived.SevenTiedAt
import Derived.Deep.DeepHandedRow
import Derived.Deep.DeepWitnessRowRef
namespace Go.Dr
open Go.Proofs.YthnfjkgiaanmhaaGreatDoor (keyOk pubB)
section
variable {b k : Int}
theorem hs_grow {D : Dir} (hb : Grp.ok b = true) (hk : keyOk k = true) (H : Hs b k D) (hn : D.rs.length < 65536) (x : Lst) : Hs b k (growS b D x) ∧ (growS b D x).rs.length = D.rs.length + 1 := by
  unfold growS
  rcases hs_set hb hk H hn x with e | ⟨E, e, hE, hl⟩
  · rw [e, if_neg (by decide)]
    obtain ⟨e2, hT⟩ := hs_tick hb hk H hn
    rw [e2, if_pos rfl]
    exact ⟨hT, by simp⟩
  · rw [e, if_pos rfl]
    exact ⟨hE, hl⟩
theorem hs_grown (hb : Grp.ok b = true) (hk : keyOk k = true) : ∀ (l : List Lst) {D : Dir}, Hs b k D → D.rs.length + l.length ≤ 65536 → Hs b k (grownD b D l) ∧ (grownD b D l).rs.length = D.rs.length + l.length
  | [], _, H, _ => ⟨H, rfl⟩
  | x :: t, D, H, hn => by
    rw [List.length_cons] at hn
    obtain ⟨h1, h2⟩ := hs_grow hb hk H (by omega) x
    obtain ⟨h3, h4⟩ := hs_grown hb hk t h1 (by omega)
    refine ⟨h3, ?_⟩
    rw [show grownD b D (x :: t) = grownD b (growS b D x) t from rfl, h4, h2, List.length_cons]
    omega
end
section
variable {b pub : Int} {R : List Rt}
theorem seen_all (H : Hist b pub R) : ∀ (l : List Nat) {w : Wt}, Seen b pub R w → ∃ v, seenW b R w l = (v, true) ∧ Seen b pub R v ∧ (∀ x ∈ w.rs, x ∈ v.rs) ∧ v.rs.length ≤ w.rs.length + l.length
  | [], w, S => ⟨w, rfl, S, fun _ h => h, by simp⟩
  | k :: t, w, S => by
    unfold seenW
    cases e : R[k % R.length]? with
    | none => exact ⟨w, rfl, S, fun _ h => h, by simp⟩
    | some r =>
      obtain ⟨v, h1, h2, h3, h4⟩ := seen_step H S (List.mem_of_getElem? e)
      have hm := acc_ok (b := b) (w := w) (r := r) (by rw [h1])
      rw [h1] at hm
      obtain ⟨v2, h5, h6, h7, h8⟩ := seen_all H t h2
      simp only [h1, if_true]
      exact ⟨v2, h5, h6, fun x hx => h7 x (hm.2.2.2.1 x hx), by rw [List.length_cons]; omega⟩
end
end Go.Dr
namespace Go.Proofs.YthnfjkgiaanmhaaGreatDoor
open Go.RowKit Go.Mem
open Go.Dr (Lst Rt Dir Wt)

section
variable {H : Type} {enc : TypeId × Value → H} {W : World}
theorem cellsSl : Tryz.prog.cellsOf 23 = 1 := by kernel_rfl
theorem open_bytes' {fuel : Nat} {cs : List Value} {x : DataW H × List MemPlace} (h : DataW.trod enc Tryz.prog W 0 (fun _ => true) true fuel 23 cs = some x) : ∃ a n c l, cs = [.slice a n c] ∧ BW W a n c l := by
  rcases Deep.open_slice Tryz.underlying23 h with ⟨rfl, _⟩ | ⟨ad, len, cap, m, k, D, Pl, rfl, hb, hl, hm, hmm, _, hx⟩
  · exact ⟨none, 0, 0, [], rfl, .inl ⟨rfl, Nat.le_refl _, by decide, fun _ => ⟨rfl, rfl⟩, (fun ad e => by cases e), (fun x hx => by cases hx)⟩⟩
  · simp at hmm
    subst hmm
    rw [cellsU8] at hx
    by_cases h0 : m = 0
    · subst h0
      obtain rfl : len = 0 := by omega
      exact ⟨some ad, 0, 0, [], rfl, .inr ⟨rfl, rfl, rfl, ad, rfl⟩⟩
    · have each : ∀ i, i < m → ∃ y : Nat, W.cell? (ad.add i) = some (.int .u8 (y : Int)) ∧ y < 256 := by
        intro i hi
        obtain ⟨cs', h1, h2⟩ := hx i hi
        rw [Nat.mul_one] at h1
        obtain ⟨_, hlen, hcell⟩ := World.cells?_some h1
        obtain ⟨y, rfl, hy⟩ := open_u8 h2
        have e0 := hcell 0 (by omega)
        have z : ∀ q : Addr, q.add 0 = q := fun q => by unfold Addr.add; cases q; simp
        rw [z] at e0
        exact ⟨y, by simpa using e0, hy⟩
      obtain ⟨T, hT⟩ := Deep.choose_lt each
      obtain ⟨b, off, spot⟩ := ad
      have c0 := (hT 0 (by omega)).1
      have hspot : spot = none := by simpa [Addr.add] using World.cell?_spot c0
      subst hspot
      have hbl : b < W.heap.size := World.block_lt_of_cell? W _ (by simpa [Addr.add] using c0)
      refine ⟨_, len, m, (List.range len).map T, rfl, .inl ⟨by simp, hl, by unfold maxLen at hm; omega, (fun e => by cases e), fun ad e => ?_, fun y hy => ?_⟩⟩
      · cases e
        refine ⟨b, off, rfl, hbl, fun i y hy => ?_⟩
        have hi : i < len := by have := (List.getElem?_eq_some_iff.1 hy).1; simpa using this
        have hti : y = T i := by rw [List.getElem?_map, List.getElem?_range hi] at hy; simpa using hy.symm
        subst hti
        have g0 := (hT i (by omega)).1
        rwa [Addr.add_lit] at g0
      · obtain ⟨i, hi, rfl⟩ := List.mem_map.1 hy
        exact (hT i (by have := List.mem_range.1 hi; omega)).2

end
end Go.Proofs.YthnfjkgiaanmhaaGreatDoor
namespace Go.Proofs.YthnfjkgiaanmhaaGreatDoor
open Go.RowKit Go.Mem
open Go.Dr (Lst Rt Dir Wt)

theorem pub_i64 (b x : Int) : I64 (pubB b x) := by
  have h := pubB_bd b x
  exact ⟨by omega, by omega⟩

set_option maxRecDepth 100000 in
set_option maxHeartbeats 40000000 in
theorem ghonest_walk (k : Int) (ik : I64 k) (a : Option Addr) (n c : Nat) (l : List Lst) (a2 : Option Addr) (n2 c2 : Nat) (bl : List Nat) (a3 : Option Addr) (n3 c3 : Nat) (bl3 : List Nat) (x4 : Nat) (i4 : x4 < 256) (x5 : Nat) (i5 : x5 < 256) (w : World) (HT : Tabs w) (S1 : GS (fun _ => True) w a n c l) (S2 : BW w a2 n2 c2 bl) (S3 : BW w a3 n3 c3 bl3) :
    Calls Tryz.prog 3 #[.int .i64 k, .slice a n c, .slice a2 n2 c2, .slice a3 n3 c3, .int .u8 (x4 : Int), .int .u8 (x5 : Int)] w (RetBo true w) := by
  have HT' := Lib.hid HT; have ik' := Lib.hid ik; have i4' := Lib.hid i4; have i5' := Lib.hid i5
  have hG1 := Lib.hid S1; have hB2 := Lib.hid S2; have hB3 := Lib.hid S3
  have hln : Hid (l.length = n) := RS.len S1
  have hbw : Hid (Below w.heap.size w w) := Below.refl _ w
  clear HT ik i4 i5 S1 S2 S3
  obtain ⟨X, hX⟩ : ∃ X, X = RetBo true w := ⟨_, rfl⟩
  have hfin : Hid (∀ W, Below w.heap.size w W → X (.returned (.bool true)) W) := fun W hb => by rw [hX]; exact ⟨rfl, hb⟩
  rw [← hX]
  clear hX
  obtain ⟨zS, hzS⟩ : ∃ z, Hid (spC Go.Dr.zeroS = z) := ⟨_, rfl⟩
  have hzo : Hid ((Tryz.prog.info? 42).map (·.size) = some zS.length) := by rw [← hzS.out]; exact sizeSp' okZS
  have hz1 : Hid (∀ u ∈ zS, u.oneCell' = true) := by rw [← hzS.out]; exact spC_one _
  have hzl : Hid (zS.length = (spC Go.Dr.zeroS).length) := by show _ = _; rw [← hzS.out]
  have hzr : Hid (∀ W, (Instr.build 42 #[]).run Tryz.prog W = .ok (.agg zS.toArray) W) := fun W => by rw [← hzS.out]; exact split_zero W
  go_enter Tryz.func3, Tryz.ntmps3
  go_wp2_with fail
  refine (sane36_any _ (HT'.out.below hbw.out)).mono ?_
  rintro e w1 ⟨rfl, hst⟩
  replace hbw := Lib.hid (hbw.out.trans (hst.mono hbw.out.size))
  clear hst
  obtain ⟨p0, hp0⟩ : ∃ p, Hid ((Go.Dr.newD k).1.priv = p) := ⟨_, rfl⟩
  obtain ⟨pub, hpub⟩ : ∃ p, Hid ((publicK 4 k).1 = p) := ⟨_, rfl⟩
  obtain ⟨Q, hQ⟩ : ∃ q, Hid (keyOk k = q) := ⟨_, rfl⟩
  have hop := Lib.hid (fun W => open36_any k W)
  unfold Open36Post at hop
  rw [hp0.out, hpub.out, hQ.out] at hop
  go_wp2_with fail
  refine (hop.out _).mono ?_
  rintro e w2 ⟨rfl, hst⟩
  replace hbw := Lib.hid (hbw.out.trans (hst.mono hbw.out.size))
  clear hst hop
  have hws2 : Hid (w.heap.size ≤ w2.heap.size) := hbw.out.size
  obtain ⟨v2, hP⟩ : ∃ V, Hid (PutR 27 (w2.alloc (.cells (dirC 0 none 0 0 none 0 0 : List Value).toArray 27)) V w2.heap.size 27 (dirC p0 none 0 0 none 0 0)) := put_row (Blk.new w2 27 (dirC 0 none 0 0 none 0 0)) rfl (sizeDr) (dr_one _ _ _ _ _ _ _)
  have hst := below_grown ((Below.refl _ w2).alloc (Nat.le_refl _) _) hP.out.grown (by simp) (Nat.le_refl _)
  replace hbw := Lib.hid (hbw.out.trans (hst.mono hbw.out.size))
  clear hst
  have hBd := Lib.hid hP.out.blk
  go_upto_region 4 with (first
    | (refine wpList_store_mid (by rfl) 27 (.tmp 13) (.tmp 30) (by rfl) w2.heap.size 0 (dirC p0 none 0 0 none 0 0).toArray (by rfl) (by rfl) hP.out.there hP.out.info (by simpa using hP.out.one) ?_
       generalize hWq : World.setCells _ _ _ _ = Wa
       obtain rfl : v2 = Wa := by rw [← hWq]; exact hP.out.eq
       clear hWq))
  clear hP
  cases Q with
  | false =>
    have hend := Lib.hid (hfin.out _ hbw.out)
    clear hfin
    go_wp2_with fail
    exact hend.out
  | true =>
    by_cases h1 : n ≤ 6
    rotate_left
    · have d1 : decide ((6 : Int) < (n : Int)) = true := by simp; omega
      have d1b : decide (6 < n) = true := by simp; omega
      have hend := Lib.hid (hfin.out _ hbw.out)
      clear hfin
      go_wp2_with fail
      exact hend.out
    have d1 : decide ((6 : Int) < (n : Int)) = false := by simp; omega
    have d1b : decide (6 < n) = false := by simp; omega
    by_cases h2 : n2 ≤ 8
    rotate_left
    · have d2 : decide ((8 : Int) < (n2 : Int)) = true := by simp; omega
      have d2b : decide (8 < n2) = true := by simp; omega
      have hend := Lib.hid (hfin.out _ hbw.out)
      clear hfin
      go_wp2_with fail
      exact hend.out
    have d2 : decide ((8 : Int) < (n2 : Int)) = false := by simp; omega
    have d2b : decide (8 < n2) = false := by simp; omega
    by_cases h3 : n3 ≤ 8
    rotate_left
    · have d3 : decide ((8 : Int) < (n3 : Int)) = true := by simp; omega
      have d3b : decide (8 < n3) = true := by simp; omega
      have hend := Lib.hid (hfin.out _ hbw.out)
      clear hfin
      go_wp2_with fail
      exact hend.out
    have d3 : decide ((8 : Int) < (n3 : Int)) = false := by simp; omega
    have d3b : decide (8 < n3) = false := by simp; omega
    obtain rfl : p0 = k := by rw [← hp0.out]; unfold Go.Dr.newD; rw [hQ.out]; rfl
    have hpe : Hid (pub = pubB 4 p0) := by show _ = _; rw [← hpub.out, publicK_t hQ.out]
    have hpi : Hid (I64 pub) := by show I64 _; rw [hpe.out]; exact pub_i64 _ _
    have hgw := Go.Dr.hs_grown base_ok hQ.out l (Go.Dr.hs_new 4 p0) (by have := hln.out; simp; omega)
    obtain ⟨E, hE⟩ : ∃ E, Hid (Go.Dr.grownD 4 ⟨p0, [], []⟩ l = E) := ⟨_, rfl⟩
    rw [hE.out] at hgw
    obtain ⟨hgs, hgl⟩ := hgw
    rw [List.length_nil, Nat.zero_add, hln.out] at hgl
    have hEl := Lib.hid hgl
    have hst1 : Hid (Go.Dr.Hist 4 pub E.rs) := by rw [hpe.out]; exact hgs.hist
    have hEp : Hid (E.priv = p0) := hgs.priv
    clear hp0 hpub hgl hgs
    obtain ⟨lm, hlm⟩ : ∃ m, Hid (E.ls.length = m) := ⟨_, rfl⟩
    have hgr := Lib.hid (fun (W : World) hT hM hG => grown_at (K := fun _ => False) (K2 := fun _ => True) (D := ⟨p0, [], []⟩) (i := 0) (j := 0) hE.out rfl rfl hlm.out hEl.out (la := none) (lc := 0) (ra := none) (rc := 0) (a := a) (n := n) (c := c) (w := W) hT hM hG)
    rw [hEp.out] at hgr
    have y0 := hBd.out.at_ (i := 0) (x := .int .i64 p0) rfl
    have y1 := hBd.out.at_ (i := 1) (x := .slice none 0 0) rfl
    have y2 := hBd.out.at_ (i := 2) (x := .slice none 0 0) rfl
    go_wp2_with fail
    clear y0 y1 y2 d1 d1b d2 d2b d3 d3b
    have hdl : Hid (w2.heap.size < v2.heap.size) := hBd.out.lt
    refine (hgr.out _ (HT'.out.below hbw.out) ⟨ik'.out, RS.nil0 _ _ _, RS.nil0 _ _ _⟩ (hG1.out.below hbw.out)).mono ?_
    rintro e w4 ⟨la, lc, ra, rc, rfl, hD40, hst⟩
    replace hBd := Lib.hid (hBd.out.below hst hBd.out.lt)
    replace hbw := Lib.hid (hbw.out.trans (hst.mono hbw.out.size))
    clear hst hgr
    obtain ⟨v4, hP⟩ : ∃ V, Hid (PutR 27 w4 V w2.heap.size 27 (dirC p0 la lm lc ra n rc)) := put_row hBd.out rfl sizeDr (dr_one _ _ _ _ _ _ _)
    replace hBd := Lib.hid hP.out.blk
    have hK40 : DM (fun b => v2.heap.size ≤ b) w4 E la lm lc ra n rc := hD40.imp (fun b _ hb => hb.elim (fun h => h.1.elim) id)
    have hD4 : Hid (DM (fun _ => True) v4 E la lm lc ra n rc) := (hK40.keep (Keeps.grown (K := fun b => v2.heap.size ≤ b) hP.out.grown (fun b (hb : v2.heap.size ≤ b) e => by have := hdl.out; omega))).imp (fun _ _ _ => trivial)
    replace hbw := Lib.hid (below_grown hbw.out hP.out.grown hbw.out.size hws2.out)
    clear hD40 hK40 hws2 hdl
    go_upto_region 7 with (first
      | (refine wpList_store_mid (by rfl) 27 (.tmp 13) (.tmp 52) (by rfl) w2.heap.size 0 (dirC p0 la lm lc ra n rc).toArray (by rfl) (by rfl) hP.out.there hP.out.info (by simpa using hP.out.one) ?_
         generalize hWq : World.setCells _ _ _ _ = Wa
         obtain rfl : v4 = Wa := by rw [← hWq]; exact hP.out.eq
         clear hWq))
    clear hP
    obtain ⟨V1, e1, T1, _, _⟩ := Go.Dr.seen_all hst1.out bl Go.Dr.seen_new
    obtain ⟨V2, e2, T2, _, _⟩ := Go.Dr.seen_all hst1.out bl3 Go.Dr.seen_new
    have hs1 := Lib.hid (fun (W : World) hT h1 h2 => seen_any (fun _ => True) pub hpi.out E.rs ra n rc a2 n2 c2 bl W hT h1 h2)
    have hs2 := Lib.hid (fun (W : World) hT h1 h2 => seen_any (fun _ => True) pub hpi.out E.rs ra n rc a3 n3 c3 bl3 W hT h1 h2)
    unfold SeenPost at hs1 hs2
    rw [e1] at hs1
    rw [e2] at hs2
    have c12 := Go.Dr.seen_cmp hst1.out T1 T2
    have c21 := Go.Dr.seen_cmp hst1.out T2 T1
    have k1 : Hid (chkW 4 V1 = 0) := by show _ = _; unfold chkW; rw [if_pos (Go.Dr.wchk_iff.2 T1.ok)]
    have k2 : Hid (chkW 4 V2 = 0) := by show _ = _; unfold chkW; rw [if_pos (Go.Dr.wchk_iff.2 T2.ok)]
    have hc1 := Lib.hid (fun (a n c a2 n2 c2) W hT h1 h2 => gcompare_any (fun _ => True) (fun _ => True) V1 a n c V2 a2 n2 c2 W hT h1 h2)
    have hc2 := Lib.hid (fun (a n c a2 n2 c2) W hT h1 h2 => gcompare_any (fun _ => True) (fun _ => True) V2 a n c V1 a2 n2 c2 W hT h1 h2)
    unfold CmpPost at hc1 hc2
    rw [c12] at hc1
    rw [c21] at hc2
    simp only at hc1 hc2 hs1 hs2
    rw [hzS.out] at hc1 hc2
    clear e1 e2 T1 T2 c12 c21
    have y0 := hBd.out.at_ (i := 0) (x := .int .i64 p0) rfl
    have y1 := hBd.out.at_ (i := 1) (x := .slice la lm lc) rfl
    have y2 := hBd.out.at_ (i := 2) (x := .slice ra n rc) rfl
    go_wp2_with fail
    clear y0 y1 y2
    refine (hs1.out _ (HT'.out.below hbw.out) hD4.out.qs (hB2.out.below hbw.out)).mono ?_
    rintro e w5 ⟨a5, n5, c5, rfl, hW50, hst⟩
    replace hBd := Lib.hid (hBd.out.below hst hBd.out.lt)
    replace hD4 := Lib.hid (hD4.out.below hst)
    replace hbw := Lib.hid (hbw.out.trans (hst.mono hbw.out.size))
    have hW5 := Lib.hid hW50
    clear hst hs1 hW50
    obtain ⟨v5, hP⟩ : ∃ V, Hid (PutR 32 (w5.alloc (.cells (wtC 0 none 0 0 : List Value).toArray 32)) V w5.heap.size 32 (wtC V1.pub a5 n5 c5)) := put_row (Blk.new w5 32 (wtC 0 none 0 0)) rfl (sizeWt) (wt_one _ _ _ _)
    have hst := below_grown ((Below.refl _ w5).alloc (Nat.le_refl _) _) hP.out.grown (by simp) (Nat.le_refl _)
    replace hBd := Lib.hid (hBd.out.below hst hBd.out.lt)
    replace hD4 := Lib.hid (hD4.out.below hst)
    replace hW5 := Lib.hid (hW5.out.below hst)
    replace hbw := Lib.hid (hbw.out.trans (hst.mono hbw.out.size))
    clear hst
    have hBx := Lib.hid hP.out.blk
    go_upto_region 10 with (first
      | (refine wpList_store_mid (by rfl) 32 (.tmp 16) (.tmp 65) (by rfl) w5.heap.size 0 (wtC V1.pub a5 n5 c5).toArray (by rfl) (by rfl) hP.out.there hP.out.info (by simpa using hP.out.one) ?_
         generalize hWq : World.setCells _ _ _ _ = Wa
         obtain rfl : v5 = Wa := by rw [← hWq]; exact hP.out.eq
         clear hWq))
    clear hP
    have y0 := hBd.out.at_ (i := 0) (x := .int .i64 p0) rfl
    have y1 := hBd.out.at_ (i := 1) (x := .slice la lm lc) rfl
    have y2 := hBd.out.at_ (i := 2) (x := .slice ra n rc) rfl
    go_wp2_with fail
    clear y0 y1 y2
    refine (hs2.out _ (HT'.out.below hbw.out) hD4.out.qs (hB3.out.below hbw.out)).mono ?_
    rintro e w6 ⟨a6, n6, c6, rfl, hW60, hst⟩
    replace hBd := Lib.hid (hBd.out.below hst hBd.out.lt)
    replace hD4 := Lib.hid (hD4.out.below hst)
    replace hW5 := Lib.hid (hW5.out.below hst)
    replace hBx := Lib.hid (hBx.out.below hst hBx.out.lt)
    replace hbw := Lib.hid (hbw.out.trans (hst.mono hbw.out.size))
    have hW6 := Lib.hid hW60
    clear hst hs2 hW60
    obtain ⟨v6, hP⟩ : ∃ V, Hid (PutR 32 (w6.alloc (.cells (wtC 0 none 0 0 : List Value).toArray 32)) V w6.heap.size 32 (wtC V2.pub a6 n6 c6)) := put_row (Blk.new w6 32 (wtC 0 none 0 0)) rfl (sizeWt) (wt_one _ _ _ _)
    have hst := below_grown ((Below.refl _ w6).alloc (Nat.le_refl _) _) hP.out.grown (by simp) (Nat.le_refl _)
    replace hBd := Lib.hid (hBd.out.below hst hBd.out.lt)
    replace hD4 := Lib.hid (hD4.out.below hst)
    replace hW5 := Lib.hid (hW5.out.below hst)
    replace hBx := Lib.hid (hBx.out.below hst hBx.out.lt)
    replace hW6 := Lib.hid (hW6.out.below hst)
    replace hbw := Lib.hid (hbw.out.trans (hst.mono hbw.out.size))
    clear hst
    have hBy := Lib.hid hP.out.blk
    go_upto_region 11 with (first
      | (refine wpList_store_mid (by rfl) 32 (.tmp 18) (.tmp 73) (by rfl) w6.heap.size 0 (wtC V2.pub a6 n6 c6).toArray (by rfl) (by rfl) hP.out.there hP.out.info (by simpa using hP.out.one) ?_
         generalize hWq : World.setCells _ _ _ _ = Wa
         obtain rfl : v6 = Wa := by rw [← hWq]; exact hP.out.eq
         clear hWq))
    clear hP
    have x0 := hBx.out.at_ (i := 0) (x := .int .i64 V1.pub) rfl
    have x1 := hBx.out.at_ (i := 1) (x := .slice a5 n5 c5) rfl
    have z0 := hBy.out.at_ (i := 0) (x := .int .i64 V2.pub) rfl
    have z1 := hBy.out.at_ (i := 1) (x := .slice a6 n6 c6) rfl
    go_wp2_with fail
    clear x0 x1 z0 z1
    refine (hc1.out _ _ _ _ _ _ _ (HT'.out.below hbw.out) hW5.out hW6.out).mono ?_
    rintro e w7 ⟨rfl, hst⟩
    replace hBd := Lib.hid (hBd.out.below hst hBd.out.lt)
    replace hD4 := Lib.hid (hD4.out.below hst)
    replace hW5 := Lib.hid (hW5.out.below hst)
    replace hBx := Lib.hid (hBx.out.below hst hBx.out.lt)
    replace hW6 := Lib.hid (hW6.out.below hst)
    replace hBy := Lib.hid (hBy.out.below hst hBy.out.lt)
    replace hbw := Lib.hid (hbw.out.trans (hst.mono hbw.out.size))
    clear hst hc1
    obtain ⟨v7, hP⟩ : ∃ V, Hid (PutR 42 (w7.alloc (.cells (spC Go.Dr.zeroS : List Value).toArray 42)) V w7.heap.size 42 (zS)) := put_row (Blk.new w7 42 (spC Go.Dr.zeroS)) hzl.out (hzo.out) (hz1.out)
    have hst := below_grown ((Below.refl _ w7).alloc (Nat.le_refl _) _) hP.out.grown (by simp) (Nat.le_refl _)
    replace hBd := Lib.hid (hBd.out.below hst hBd.out.lt)
    replace hD4 := Lib.hid (hD4.out.below hst)
    replace hW5 := Lib.hid (hW5.out.below hst)
    replace hBx := Lib.hid (hBx.out.below hst hBx.out.lt)
    replace hW6 := Lib.hid (hW6.out.below hst)
    replace hBy := Lib.hid (hBy.out.below hst hBy.out.lt)
    replace hbw := Lib.hid (hbw.out.trans (hst.mono hbw.out.size))
    clear hst
    have hBs1 := Lib.hid hP.out.blk
    go_upto_region 12 with (first
      | (refine wpList_store_mid (by rfl) 42 (.tmp 20) (.tmp 79) (by rfl) w7.heap.size 0 (zS).toArray (by rfl) (by rfl) hP.out.there hP.out.info (by simpa using hP.out.one) ?_
         generalize hWq : World.setCells _ _ _ _ = Wa
         obtain rfl : v7 = Wa := by rw [← hWq]; exact hP.out.eq
         clear hWq))
    clear hP
    have x0 := hBx.out.at_ (i := 0) (x := .int .i64 V1.pub) rfl
    have x1 := hBx.out.at_ (i := 1) (x := .slice a5 n5 c5) rfl
    have z0 := hBy.out.at_ (i := 0) (x := .int .i64 V2.pub) rfl
    have z1 := hBy.out.at_ (i := 1) (x := .slice a6 n6 c6) rfl
    go_wp2_with fail
    clear x0 x1 z0 z1
    refine (hc2.out _ _ _ _ _ _ _ (HT'.out.below hbw.out) hW6.out hW5.out).mono ?_
    rintro e w8 ⟨rfl, hst⟩
    replace hBd := Lib.hid (hBd.out.below hst hBd.out.lt)
    replace hD4 := Lib.hid (hD4.out.below hst)
    replace hW5 := Lib.hid (hW5.out.below hst)
    replace hBx := Lib.hid (hBx.out.below hst hBx.out.lt)
    replace hW6 := Lib.hid (hW6.out.below hst)
    replace hBy := Lib.hid (hBy.out.below hst hBy.out.lt)
    replace hBs1 := Lib.hid (hBs1.out.below hst hBs1.out.lt)
    replace hbw := Lib.hid (hbw.out.trans (hst.mono hbw.out.size))
    clear hst hc2
    obtain ⟨v8, hP⟩ : ∃ V, Hid (PutR 42 (w8.alloc (.cells (spC Go.Dr.zeroS : List Value).toArray 42)) V w8.heap.size 42 (zS)) := put_row (Blk.new w8 42 (spC Go.Dr.zeroS)) hzl.out (hzo.out) (hz1.out)
    have hst := below_grown ((Below.refl _ w8).alloc (Nat.le_refl _) _) hP.out.grown (by simp) (Nat.le_refl _)
    replace hBd := Lib.hid (hBd.out.below hst hBd.out.lt)
    replace hD4 := Lib.hid (hD4.out.below hst)
    replace hW5 := Lib.hid (hW5.out.below hst)
    replace hBx := Lib.hid (hBx.out.below hst hBx.out.lt)
    replace hW6 := Lib.hid (hW6.out.below hst)
    replace hBy := Lib.hid (hBy.out.below hst hBy.out.lt)
    replace hBs1 := Lib.hid (hBs1.out.below hst hBs1.out.lt)
    replace hbw := Lib.hid (hbw.out.trans (hst.mono hbw.out.size))
    clear hst
    have hBs2 := Lib.hid hP.out.blk
    go_upto_region 13 with (first
      | (refine wpList_store_mid (by rfl) 42 (.tmp 22) (.tmp 85) (by rfl) w8.heap.size 0 (zS).toArray (by rfl) (by rfl) hP.out.there hP.out.info (by simpa using hP.out.one) ?_
         generalize hWq : World.setCells _ _ _ _ = Wa
         obtain rfl : v8 = Wa := by rw [← hWq]; exact hP.out.eq
         clear hWq))
    clear hP
    have x0 := hBx.out.at_ (i := 0) (x := .int .i64 V1.pub) rfl
    have x1 := hBx.out.at_ (i := 1) (x := .slice a5 n5 c5) rfl
    go_wp2_with fail
    clear x0 x1
    have hck := gchk_any (fun _ => True) V1 a5 n5 c5 _ (HT'.out.below hbw.out) hW5.out
    rw [k1.out] at hck
    refine (hck).mono ?_
    rintro e w9 ⟨rfl, hst⟩
    replace hBd := Lib.hid (hBd.out.below hst hBd.out.lt)
    replace hD4 := Lib.hid (hD4.out.below hst)
    replace hW5 := Lib.hid (hW5.out.below hst)
    replace hBx := Lib.hid (hBx.out.below hst hBx.out.lt)
    replace hW6 := Lib.hid (hW6.out.below hst)
    replace hBy := Lib.hid (hBy.out.below hst hBy.out.lt)
    replace hBs1 := Lib.hid (hBs1.out.below hst hBs1.out.lt)
    replace hBs2 := Lib.hid (hBs2.out.below hst hBs2.out.lt)
    replace hbw := Lib.hid (hbw.out.trans (hst.mono hbw.out.size))
    clear hst hck
    have z0 := hBy.out.at_ (i := 0) (x := .int .i64 V2.pub) rfl
    have z1 := hBy.out.at_ (i := 1) (x := .slice a6 n6 c6) rfl
    go_wp2_with fail
    clear z0 z1
    have hck := gchk_any (fun _ => True) V2 a6 n6 c6 _ (HT'.out.below hbw.out) hW6.out
    rw [k2.out] at hck
    refine (hck).mono ?_
    rintro e w10 ⟨rfl, hst⟩
    replace hBd := Lib.hid (hBd.out.below hst hBd.out.lt)
    replace hD4 := Lib.hid (hD4.out.below hst)
    replace hW5 := Lib.hid (hW5.out.below hst)
    replace hBx := Lib.hid (hBx.out.below hst hBx.out.lt)
    replace hW6 := Lib.hid (hW6.out.below hst)
    replace hBy := Lib.hid (hBy.out.below hst hBy.out.lt)
    replace hBs1 := Lib.hid (hBs1.out.below hst hBs1.out.lt)
    replace hBs2 := Lib.hid (hBs2.out.below hst hBs2.out.lt)
    replace hbw := Lib.hid (hbw.out.trans (hst.mono hbw.out.size))
    clear hst hck
    have y0 := hBd.out.at_ (i := 0) (x := .int .i64 p0) rfl
    have y1 := hBd.out.at_ (i := 1) (x := .slice la lm lc) rfl
    have y2 := hBd.out.at_ (i := 2) (x := .slice ra n rc) rfl
    by_cases hn0 : n = 0
    · have hnz : decide ((n : Int) = 0) = true := by simp; omega
      have hnz2 : decide (n = 0) = true := by simp; omega
      have hnz3 : ((n : Int) == 0) = true := by simp; omega
      have hfin0 := hfin
      have hend := Lib.hid (hfin.out _ hbw.out)
      clear hfin
      subst hn0
      clear hnz hnz2 hnz3
      go_upto_region 16 with fail
      refine wp_region_held_drew (S := fun wz => Below w10.heap.size w10 wz) (by kernel_rfl) ((Below.refl _ w10).drew) (fun hHeld => ?_)
      generalize hWd : w10.drew = Wd at *
      clear hWd
      refine wpAnyH_take (i := 0) (oi := { dst := some 112, op := Op.move (Operand.tmp 24), type := 3, pos := "law.go:124", after := #[], guard := none }) (v := ?_) rfl (by kernel_rfl) (by kernel_rfl) (by kernel_rfl) (fun _ _ _ h => h) (Or.inl ⟨by rfl, ?_⟩) hHeld ?_
      rotate_left
      · intro wz hSw
        go_simp
        all_goals (with_reducible rfl)
      try simp only [Act.put, List.setIfInBounds_toArray, List.set_cons_zero, List.set_cons_succ]
      refine wpAnyH_take (i := 1) (oi := { dst := some 113, op := Op.binOp BinOp.eql 3 (Operand.tmp 112) (Operand.const (Value.int IntKind.i64 0)) 3, type := 4, pos := "law.go:124", after := #[{ on := 0, ground := Ground.data }], guard := none }) (v := ?_) rfl (by kernel_rfl) (by kernel_rfl) (by kernel_rfl) (fun _ _ _ h => h) (Or.inl ⟨by rfl, ?_⟩) hHeld ?_
      rotate_left
      · intro wz hSw
        go_simp
        all_goals (with_reducible rfl)
      try simp only [Act.put, List.setIfInBounds_toArray, List.set_cons_zero, List.set_cons_succ]
      refine wpAnyH_take (i := 2) (oi := { dst := some 114, op := Op.move (Operand.tmp 113), type := 4, pos := "law.go:124", after := #[{ on := 1, ground := Ground.data }], guard := none }) (v := ?_) rfl (by kernel_rfl) (by kernel_rfl) (by kernel_rfl) (fun _ _ _ h => h) (Or.inl ⟨by rfl, ?_⟩) hHeld ?_
      rotate_left
      · intro wz hSw
        go_simp
        all_goals (with_reducible rfl)
      try simp only [Act.put, List.setIfInBounds_toArray, List.set_cons_zero, List.set_cons_succ]
      refine wpAnyH_take (i := 3) (oi := { dst := some 115, op := Op.move (Operand.tmp 14), type := 3, pos := "law.go:124", after := #[{ on := 2, ground := Ground.guard }], guard := some (2, false) }) (v := undef) rfl (by kernel_rfl) (by kernel_rfl) (by kernel_rfl) (fun _ _ _ h => h) (Or.inr ⟨by rfl, rfl⟩) hHeld ?_
      try simp only [Act.put, List.setIfInBounds_toArray, List.set_cons_zero, List.set_cons_succ]
      refine wpAnyH_take (i := 4) (oi := { dst := some 116, op := Op.fieldAddr 27 (Operand.tmp 13) 2, type := 0, pos := "law.go:124", after := #[{ on := 2, ground := Ground.guard }], guard := some (2, false) }) (v := undef) rfl (by kernel_rfl) (by kernel_rfl) (by kernel_rfl) (fun _ _ _ h => h) (Or.inr ⟨by rfl, rfl⟩) hHeld ?_
      try simp only [Act.put, List.setIfInBounds_toArray, List.set_cons_zero, List.set_cons_succ]
      refine wpAnyH_take (i := 5) (oi := { dst := some 117, op := Op.load 25 (Operand.tmp 116), type := 25, pos := "law.go:124", after := #[{ on := 4, ground := Ground.data }, { on := 2, ground := Ground.guard }], guard := some (2, false) }) (v := undef) rfl (by kernel_rfl) (by kernel_rfl) (by kernel_rfl) (fun _ _ _ h => h) (Or.inr ⟨by rfl, rfl⟩) hHeld ?_
      try simp only [Act.put, List.setIfInBounds_toArray, List.set_cons_zero, List.set_cons_succ]
      refine wpAnyH_take (i := 6) (oi := { dst := some 118, op := Op.move (Operand.tmp 4), type := 5, pos := "law.go:124", after := #[{ on := 2, ground := Ground.guard }], guard := some (2, false) }) (v := undef) rfl (by kernel_rfl) (by kernel_rfl) (by kernel_rfl) (fun _ _ _ h => h) (Or.inr ⟨by rfl, rfl⟩) hHeld ?_
      try simp only [Act.put, List.setIfInBounds_toArray, List.set_cons_zero, List.set_cons_succ]
      refine wpAnyH_take (i := 7) (oi := { dst := some 119, op := Op.convert 5 3 (Operand.tmp 118), type := 3, pos := "law.go:124", after := #[{ on := 6, ground := Ground.data }, { on := 2, ground := Ground.guard }], guard := some (2, false) }) (v := undef) rfl (by kernel_rfl) (by kernel_rfl) (by kernel_rfl) (fun _ _ _ h => h) (Or.inr ⟨by rfl, rfl⟩) hHeld ?_
      try simp only [Act.put, List.setIfInBounds_toArray, List.set_cons_zero, List.set_cons_succ]
      refine wpAnyH_take (i := 8) (oi := { dst := some 120, op := Op.move (Operand.tmp 24), type := 3, pos := "law.go:124", after := #[{ on := 2, ground := Ground.guard }], guard := some (2, false) }) (v := undef) rfl (by kernel_rfl) (by kernel_rfl) (by kernel_rfl) (fun _ _ _ h => h) (Or.inr ⟨by rfl, rfl⟩) hHeld ?_
      try simp only [Act.put, List.setIfInBounds_toArray, List.set_cons_zero, List.set_cons_succ]
      refine wpAnyH_take (i := 9) (oi := { dst := some 121, op := Op.binOp BinOp.rem 3 (Operand.tmp 119) (Operand.tmp 120) 3, type := 3, pos := "law.go:124", after := #[{ on := 7, ground := Ground.data }, { on := 8, ground := Ground.data }, { on := 2, ground := Ground.guard }], guard := some (2, false) }) (v := undef) rfl (by kernel_rfl) (by kernel_rfl) (by kernel_rfl) (fun _ _ _ h => h) (Or.inr ⟨by rfl, rfl⟩) hHeld ?_
      try simp only [Act.put, List.setIfInBounds_toArray, List.set_cons_zero, List.set_cons_succ]
      refine wpAnyH_take (i := 10) (oi := { dst := some 122, op := Op.indexAddr 25 (Operand.tmp 117) (Operand.tmp 121), type := 0, pos := "law.go:124", after := #[{ on := 5, ground := Ground.data }, { on := 9, ground := Ground.data }, { on := 2, ground := Ground.guard }], guard := some (2, false) }) (v := undef) rfl (by kernel_rfl) (by kernel_rfl) (by kernel_rfl) (fun _ _ _ h => h) (Or.inr ⟨by rfl, rfl⟩) hHeld ?_
      try simp only [Act.put, List.setIfInBounds_toArray, List.set_cons_zero, List.set_cons_succ]
      refine wpAnyH_take (i := 11) (oi := { dst := some 123, op := Op.load 40 (Operand.tmp 122), type := 40, pos := "law.go:124", after := #[{ on := 10, ground := Ground.data }, { on := 2, ground := Ground.guard }], guard := some (2, false) }) (v := undef) rfl (by kernel_rfl) (by kernel_rfl) (by kernel_rfl) (fun _ _ _ h => h) (Or.inr ⟨by rfl, rfl⟩) hHeld ?_
      try simp only [Act.put, List.setIfInBounds_toArray, List.set_cons_zero, List.set_cons_succ]
      refine wpAnyH_take (i := 12) (oi := { dst := some 124, op := Op.fieldAddr 27 (Operand.tmp 13) 2, type := 0, pos := "law.go:124", after := #[{ on := 2, ground := Ground.guard }], guard := some (2, false) }) (v := undef) rfl (by kernel_rfl) (by kernel_rfl) (by kernel_rfl) (fun _ _ _ h => h) (Or.inr ⟨by rfl, rfl⟩) hHeld ?_
      try simp only [Act.put, List.setIfInBounds_toArray, List.set_cons_zero, List.set_cons_succ]
      refine wpAnyH_take (i := 13) (oi := { dst := some 125, op := Op.load 25 (Operand.tmp 124), type := 25, pos := "law.go:124", after := #[{ on := 12, ground := Ground.data }, { on := 2, ground := Ground.guard }], guard := some (2, false) }) (v := undef) rfl (by kernel_rfl) (by kernel_rfl) (by kernel_rfl) (fun _ _ _ h => h) (Or.inr ⟨by rfl, rfl⟩) hHeld ?_
      try simp only [Act.put, List.setIfInBounds_toArray, List.set_cons_zero, List.set_cons_succ]
      refine wpAnyH_take (i := 14) (oi := { dst := some 126, op := Op.move (Operand.tmp 5), type := 5, pos := "law.go:124", after := #[{ on := 2, ground := Ground.guard }], guard := some (2, false) }) (v := undef) rfl (by kernel_rfl) (by kernel_rfl) (by kernel_rfl) (fun _ _ _ h => h) (Or.inr ⟨by rfl, rfl⟩) hHeld ?_
      try simp only [Act.put, List.setIfInBounds_toArray, List.set_cons_zero, List.set_cons_succ]
      refine wpAnyH_take (i := 15) (oi := { dst := some 127, op := Op.convert 5 3 (Operand.tmp 126), type := 3, pos := "law.go:124", after := #[{ on := 14, ground := Ground.data }, { on := 2, ground := Ground.guard }], guard := some (2, false) }) (v := undef) rfl (by kernel_rfl) (by kernel_rfl) (by kernel_rfl) (fun _ _ _ h => h) (Or.inr ⟨by rfl, rfl⟩) hHeld ?_
      try simp only [Act.put, List.setIfInBounds_toArray, List.set_cons_zero, List.set_cons_succ]
      refine wpAnyH_take (i := 16) (oi := { dst := some 128, op := Op.move (Operand.tmp 24), type := 3, pos := "law.go:124", after := #[{ on := 2, ground := Ground.guard }], guard := some (2, false) }) (v := undef) rfl (by kernel_rfl) (by kernel_rfl) (by kernel_rfl) (fun _ _ _ h => h) (Or.inr ⟨by rfl, rfl⟩) hHeld ?_
      try simp only [Act.put, List.setIfInBounds_toArray, List.set_cons_zero, List.set_cons_succ]
      refine wpAnyH_take (i := 17) (oi := { dst := some 129, op := Op.binOp BinOp.rem 3 (Operand.tmp 127) (Operand.tmp 128) 3, type := 3, pos := "law.go:124", after := #[{ on := 15, ground := Ground.data }, { on := 16, ground := Ground.data }, { on := 2, ground := Ground.guard }], guard := some (2, false) }) (v := undef) rfl (by kernel_rfl) (by kernel_rfl) (by kernel_rfl) (fun _ _ _ h => h) (Or.inr ⟨by rfl, rfl⟩) hHeld ?_
      try simp only [Act.put, List.setIfInBounds_toArray, List.set_cons_zero, List.set_cons_succ]
      refine wpAnyH_take (i := 18) (oi := { dst := some 130, op := Op.indexAddr 25 (Operand.tmp 125) (Operand.tmp 129), type := 0, pos := "law.go:124", after := #[{ on := 13, ground := Ground.data }, { on := 17, ground := Ground.data }, { on := 2, ground := Ground.guard }], guard := some (2, false) }) (v := undef) rfl (by kernel_rfl) (by kernel_rfl) (by kernel_rfl) (fun _ _ _ h => h) (Or.inr ⟨by rfl, rfl⟩) hHeld ?_
      try simp only [Act.put, List.setIfInBounds_toArray, List.set_cons_zero, List.set_cons_succ]
      refine wpAnyH_take (i := 19) (oi := { dst := some 131, op := Op.load 40 (Operand.tmp 130), type := 40, pos := "law.go:124", after := #[{ on := 18, ground := Ground.data }, { on := 2, ground := Ground.guard }], guard := some (2, false) }) (v := undef) rfl (by kernel_rfl) (by kernel_rfl) (by kernel_rfl) (fun _ _ _ h => h) (Or.inr ⟨by rfl, rfl⟩) hHeld ?_
      try simp only [Act.put, List.setIfInBounds_toArray, List.set_cons_zero, List.set_cons_succ]
      refine wpAnyH_take (i := 20) (oi := { dst := some 132, op := Op.build 42 #[(0, Operand.tmp 123), (1, Operand.tmp 131)], type := 42, pos := "law.go:124", after := #[{ on := 11, ground := Ground.data }, { on := 19, ground := Ground.data }, { on := 2, ground := Ground.guard }], guard := some (2, false) }) (v := undef) rfl (by kernel_rfl) (by kernel_rfl) (by kernel_rfl) (fun _ _ _ h => h) (Or.inr ⟨by rfl, rfl⟩) hHeld ?_
      try simp only [Act.put, List.setIfInBounds_toArray, List.set_cons_zero, List.set_cons_succ]
      refine wpAnyH_ready (rs := [21]) (by kernel_rfl) (by simp) ?_
      refine AllReadyH.cons (o := { dst := some 133, op := Op.call { callee := Callee.value (Operand.func 14), args := #[Operand.tmp 115, Operand.tmp 132], argTypes := #[3, 42] }, type := 45, pos := "law.go:124", after := #[{ on := 3, ground := Ground.data }, { on := 20, ground := Ground.data }, { on := 2, ground := Ground.chain }, { on := 2, ground := Ground.guard }], guard := some (2, false) }) rfl (fun K hK => ?_) AllReadyH.nil
      rw [if_neg (Bool.eq_false_iff.1 (by rfl))]
      refine hK.out _ _ hHeld (fun hHeld => ?_)
      clear hK K
      try simp only [Act.put, List.setIfInBounds_toArray, List.set_cons_zero, List.set_cons_succ]
      refine wpAnyH_take (i := 22) (oi := { dst := some 134, op := Op.binOp BinOp.eql 45 (Operand.tmp 133) (Operand.const (Value.int IntKind.i64 361)) 45, type := 4, pos := "law.go:124", after := #[{ on := 21, ground := Ground.data }, { on := 2, ground := Ground.guard }], guard := some (2, false) }) (v := undef) rfl (by kernel_rfl) (by kernel_rfl) (by kernel_rfl) (fun _ _ _ h => h) (Or.inr ⟨by rfl, rfl⟩) hHeld ?_
      try simp only [Act.put, List.setIfInBounds_toArray, List.set_cons_zero, List.set_cons_succ]
      refine wpAnyH_take (i := 23) (oi := { dst := some 135, op := Op.pick (Operand.tmp 114) (Operand.const (Value.bool true)) (Operand.tmp 134), type := 4, pos := "law.go:124", after := #[{ on := 2, ground := Ground.data }, { on := 22, ground := Ground.data }], guard := none }) (v := ?_) rfl (by kernel_rfl) (by kernel_rfl) (by kernel_rfl) (fun _ _ _ h => h) (Or.inl ⟨by rfl, ?_⟩) hHeld ?_
      rotate_left
      · intro wz hSw
        go_simp
        all_goals (with_reducible rfl)
      try simp only [Act.put, List.setIfInBounds_toArray, List.set_cons_zero, List.set_cons_succ]
      refine wpAnyH_take (i := 24) (oi := { dst := some 12, op := Op.assign (Operand.tmp 135), type := 4, pos := "law.go:124", after := #[{ on := 23, ground := Ground.data }, { on := 21, ground := Ground.chain }, { on := 0, ground := Ground.phase }, { on := 1, ground := Ground.phase }, { on := 2, ground := Ground.phase }, { on := 3, ground := Ground.phase }, { on := 4, ground := Ground.phase }, { on := 5, ground := Ground.phase }, { on := 6, ground := Ground.phase }, { on := 7, ground := Ground.phase }, { on := 8, ground := Ground.phase }, { on := 9, ground := Ground.phase }, { on := 10, ground := Ground.phase }, { on := 11, ground := Ground.phase }, { on := 12, ground := Ground.phase }, { on := 13, ground := Ground.phase }, { on := 14, ground := Ground.phase }, { on := 15, ground := Ground.phase }, { on := 16, ground := Ground.phase }, { on := 17, ground := Ground.phase }, { on := 18, ground := Ground.phase }, { on := 19, ground := Ground.phase }, { on := 20, ground := Ground.phase }, { on := 21, ground := Ground.phase }, { on := 22, ground := Ground.phase }, { on := 23, ground := Ground.phase }], guard := none }) (v := ?_) rfl (by kernel_rfl) (by kernel_rfl) (by kernel_rfl) (fun _ _ _ h => h) (Or.inl ⟨by rfl, ?_⟩) hHeld ?_
      rotate_left
      · intro wz hSw
        go_simp
        all_goals (with_reducible rfl)
      try simp only [Act.put, List.setIfInBounds_toArray, List.set_cons_zero, List.set_cons_succ]
      refine wpAnyH_done (by kernel_rfl) ?_ _
      have hend := Lib.hid (hfin0.out _ (hbw.out.trans (hHeld.mono hbw.out.size)))
      go_wp2_with fail
      exact hend.out
    have hnz : ((n : Int) == 0) = false := by simp; omega
    have hne1 : ((n : Int) = 0) = False := by rw [eq_iff_iff, iff_false]; omega
    have hne2 : (n = 0) = False := by rw [eq_iff_iff, iff_false]; omega
    obtain ⟨j, hj⟩ : ∃ j, Hid (x4 % n = j) := ⟨_, rfl⟩
    have hjn : j < n := by rw [← hj.out]; exact Nat.mod_lt _ (by omega)
    obtain ⟨i, hi⟩ : ∃ j, Hid (x5 % n = j) := ⟨_, rfl⟩
    have hin : i < n := by rw [← hi.out]; exact Nat.mod_lt _ (by omega)
    obtain ⟨r, hr⟩ : ∃ r, E.rs[j]? = some r := ⟨_, List.getElem?_eq_getElem (by have := hEl.out; omega)⟩
    obtain ⟨s, hs⟩ : ∃ r, E.rs[i]? = some r := ⟨_, List.getElem?_eq_getElem (by have := hEl.out; omega)⟩
    have hor := hD4.out.qs.okAt hr
    have hos := hD4.out.qs.okAt hs
    obtain ⟨b1, o1, era, _⟩ := hD4.out.qs.cells hr
    subst era
    have hrr : Hid (∀ wz, Below w10.heap.size w10 wz → wz.rangeAt b1 (o1 + j * 67) (rC r)) := fun wz h => (hD4.out.below h).qs.at_ hr
    have hrs : Hid (∀ wz, Below w10.heap.size w10 wz → wz.rangeAt b1 (o1 + i * 67) (rC s)) := fun wz h => (hD4.out.below h).qs.at_ hs
    have hri : Hid ((Tryz.prog.info? 40).map (·.size) = some (rC r).length) := by show _ = _; rw [rC_length hor]; exact sizeR
    have hsi : Hid ((Tryz.prog.info? 40).map (·.size) = some (rC s).length) := by show _ = _; rw [rC_length hos]; exact sizeR
    have hbl : Hid (∀ W, (Instr.build 42 #[(0, .agg (rC r).toArray), (1, .agg (rC s).toArray)]).run Tryz.prog W = .ok (.agg (spC (r, s)).toArray) W) := fun W => split_build hor hos W
    have hpr := Lib.hid (fun (W : World) hT => gprove_any pub hpi.out (r, s) ⟨hor, hos⟩ W hT)
    rw [Go.Dr.own_prove hst1.out (List.mem_of_getElem? hr) (List.mem_of_getElem? hs)] at hpr
    obtain ⟨rr, hre⟩ : ∃ z, Hid (rC r = z) := ⟨_, rfl⟩
    obtain ⟨ss, hse⟩ : ∃ z, Hid (rC s = z) := ⟨_, rfl⟩
    obtain ⟨sp, hsp⟩ : ∃ z, Hid (spC (r, s) = z) := ⟨_, rfl⟩
    rw [hre.out] at hrr hri hbl
    rw [hse.out] at hrs hsi hbl
    rw [hsp.out] at hbl hpr
    have hw4 : Hid (IntKind.i64.wrap (x4 : Int) = (x4 : Int)) := by show _ = _; have := i4'.out; rw [IntKind.wrap_i64]; omega
    have hw5 : Hid (IntKind.i64.wrap (x5 : Int) = (x5 : Int)) := by show _ = _; have := i5'.out; rw [IntKind.wrap_i64]; omega
    have hwj : Hid (IntKind.i64.wrap (j : Int) = (j : Int)) := by show _ = _; rw [IntKind.wrap_i64]; omega
    have hwi : Hid (IntKind.i64.wrap (i : Int) = (i : Int)) := by show _ = _; rw [IntKind.wrap_i64]; omega
    have htj : Hid (Int.tmod (x4 : Int) (n : Int) = (j : Int)) := by show _ = _; rw [Int.tmod_eq_emod_of_nonneg (by omega), ← hj.out]; omega
    have hti : Hid (Int.tmod (x5 : Int) (n : Int) = (i : Int)) := by show _ = _; rw [Int.tmod_eq_emod_of_nonneg (by omega), ← hi.out]; omega
    have j0 : (0 : Int) ≤ (j : Int) := by omega
    have j1 : (j : Int) < (n : Int) := by omega
    have i0 : (0 : Int) ≤ (i : Int) := by omega
    have i1 : (i : Int) < (n : Int) := by omega
    have hBd1 := hBd
    clear hr hs hor hos hst1
    clear y0 y1
    go_upto_region 16 with fail
    clear y2
    refine wp_region_held_drew (S := fun wz => Below w10.heap.size w10 wz) (by kernel_rfl) ((Below.refl _ w10).drew) (fun hHeld => ?_)
    generalize hWd : w10.drew = Wd at *
    clear hWd
    refine wpAnyH_take (i := 0) (oi := { dst := some 112, op := Op.move (Operand.tmp 24), type := 3, pos := "law.go:124", after := #[], guard := none }) (v := ?_) rfl (by kernel_rfl) (by kernel_rfl) (by kernel_rfl) (fun _ _ _ h => h) (Or.inl ⟨by rfl, ?_⟩) hHeld ?_
    rotate_left
    · intro wz hSw
      go_simp
      all_goals (with_reducible rfl)
    try simp only [Act.put, List.setIfInBounds_toArray, List.set_cons_zero, List.set_cons_succ]
    refine wpAnyH_take (i := 1) (oi := { dst := some 113, op := Op.binOp BinOp.eql 3 (Operand.tmp 112) (Operand.const (Value.int IntKind.i64 0)) 3, type := 4, pos := "law.go:124", after := #[{ on := 0, ground := Ground.data }], guard := none }) (v := ?_) rfl (by kernel_rfl) (by kernel_rfl) (by kernel_rfl) (fun _ _ _ h => h) (Or.inl ⟨by rfl, ?_⟩) hHeld ?_
    rotate_left
    · intro wz hSw
      have hnz' := hnz
      have h1' := hne1
      have h2' := hne2
      go_simp
      all_goals (with_reducible rfl)
    try simp only [Act.put, List.setIfInBounds_toArray, List.set_cons_zero, List.set_cons_succ]
    refine wpAnyH_take (i := 2) (oi := { dst := some 114, op := Op.move (Operand.tmp 113), type := 4, pos := "law.go:124", after := #[{ on := 1, ground := Ground.data }], guard := none }) (v := ?_) rfl (by kernel_rfl) (by kernel_rfl) (by kernel_rfl) (fun _ _ _ h => h) (Or.inl ⟨by rfl, ?_⟩) hHeld ?_
    rotate_left
    · intro wz hSw
      go_simp
      all_goals (with_reducible rfl)
    try simp only [Act.put, List.setIfInBounds_toArray, List.set_cons_zero, List.set_cons_succ]
    refine wpAnyH_take (i := 3) (oi := { dst := some 115, op := Op.move (Operand.tmp 14), type := 3, pos := "law.go:124", after := #[{ on := 2, ground := Ground.guard }], guard := some (2, false) }) (v := ?_) rfl (by kernel_rfl) (by kernel_rfl) (by kernel_rfl) (fun _ _ _ h => h) (Or.inl ⟨by rfl, ?_⟩) hHeld ?_
    rotate_left
    · intro wz hSw
      go_simp
      all_goals (with_reducible rfl)
    try simp only [Act.put, List.setIfInBounds_toArray, List.set_cons_zero, List.set_cons_succ]
    refine wpAnyH_take (i := 4) (oi := { dst := some 116, op := Op.fieldAddr 27 (Operand.tmp 13) 2, type := 0, pos := "law.go:124", after := #[{ on := 2, ground := Ground.guard }], guard := some (2, false) }) (v := ?_) rfl (by kernel_rfl) (by kernel_rfl) (by kernel_rfl) (fun _ _ _ h => h) (Or.inl ⟨by rfl, ?_⟩) hHeld ?_
    rotate_left
    · intro wz hSw
      go_simp
      all_goals (with_reducible rfl)
    try simp only [Act.put, List.setIfInBounds_toArray, List.set_cons_zero, List.set_cons_succ]
    refine wpAnyH_take (i := 5) (oi := { dst := some 117, op := Op.load 25 (Operand.tmp 116), type := 25, pos := "law.go:124", after := #[{ on := 4, ground := Ground.data }, { on := 2, ground := Ground.guard }], guard := some (2, false) }) (v := ?_) rfl (by kernel_rfl) (by kernel_rfl) (by kernel_rfl) (fun _ _ _ h => h) (Or.inl ⟨by rfl, ?_⟩) hHeld ?_
    rotate_left
    · intro wz hSw
      have y2' := (hBd1.out.below hSw hBd1.out.lt).at_ (i := 2) (x := .slice (some ⟨b1, o1, none⟩) n rc) rfl
      go_simp
      all_goals (with_reducible rfl)
    try simp only [Act.put, List.setIfInBounds_toArray, List.set_cons_zero, List.set_cons_succ]
    refine wpAnyH_take (i := 6) (oi := { dst := some 118, op := Op.move (Operand.tmp 4), type := 5, pos := "law.go:124", after := #[{ on := 2, ground := Ground.guard }], guard := some (2, false) }) (v := ?_) rfl (by kernel_rfl) (by kernel_rfl) (by kernel_rfl) (fun _ _ _ h => h) (Or.inl ⟨by rfl, ?_⟩) hHeld ?_
    rotate_left
    · intro wz hSw
      go_simp
      all_goals (with_reducible rfl)
    try simp only [Act.put, List.setIfInBounds_toArray, List.set_cons_zero, List.set_cons_succ]
    refine wpAnyH_take (i := 7) (oi := { dst := some 119, op := Op.convert 5 3 (Operand.tmp 118), type := 3, pos := "law.go:124", after := #[{ on := 6, ground := Ground.data }, { on := 2, ground := Ground.guard }], guard := some (2, false) }) (v := ?_) rfl (by kernel_rfl) (by kernel_rfl) (by kernel_rfl) (fun _ _ _ h => h) (Or.inl ⟨by rfl, ?_⟩) hHeld ?_
    rotate_left
    · intro wz hSw
      have hx' := hw4.out
      go_simp
      all_goals (with_reducible rfl)
    try simp only [Act.put, List.setIfInBounds_toArray, List.set_cons_zero, List.set_cons_succ]
    refine wpAnyH_take (i := 8) (oi := { dst := some 120, op := Op.move (Operand.tmp 24), type := 3, pos := "law.go:124", after := #[{ on := 2, ground := Ground.guard }], guard := some (2, false) }) (v := ?_) rfl (by kernel_rfl) (by kernel_rfl) (by kernel_rfl) (fun _ _ _ h => h) (Or.inl ⟨by rfl, ?_⟩) hHeld ?_
    rotate_left
    · intro wz hSw
      go_simp
      all_goals (with_reducible rfl)
    try simp only [Act.put, List.setIfInBounds_toArray, List.set_cons_zero, List.set_cons_succ]
    refine wpAnyH_take (i := 9) (oi := { dst := some 121, op := Op.binOp BinOp.rem 3 (Operand.tmp 119) (Operand.tmp 120) 3, type := 3, pos := "law.go:124", after := #[{ on := 7, ground := Ground.data }, { on := 8, ground := Ground.data }, { on := 2, ground := Ground.guard }], guard := some (2, false) }) (v := ?_) rfl (by kernel_rfl) (by kernel_rfl) (by kernel_rfl) (fun _ _ _ h => h) (Or.inl ⟨by rfl, ?_⟩) hHeld ?_
    rotate_left
    · intro wz hSw
      have ht' := htj.out
      have h1' := hne1
      have h2' := hne2
      have hj' := hwj.out
      go_simp
      all_goals (with_reducible rfl)
    try simp only [Act.put, List.setIfInBounds_toArray, List.set_cons_zero, List.set_cons_succ]
    refine wpAnyH_take (i := 10) (oi := { dst := some 122, op := Op.indexAddr 25 (Operand.tmp 117) (Operand.tmp 121), type := 0, pos := "law.go:124", after := #[{ on := 5, ground := Ground.data }, { on := 9, ground := Ground.data }, { on := 2, ground := Ground.guard }], guard := some (2, false) }) (v := ?_) rfl (by kernel_rfl) (by kernel_rfl) (by kernel_rfl) (fun _ _ _ h => h) (Or.inl ⟨by rfl, ?_⟩) hHeld ?_
    rotate_left
    · intro wz hSw
      have j0' := j0
      have j1' := j1
      go_simp
      all_goals (with_reducible rfl)
    try simp only [Act.put, List.setIfInBounds_toArray, List.set_cons_zero, List.set_cons_succ]
    refine wpAnyH_take (i := 11) (oi := { dst := some 123, op := Op.load 40 (Operand.tmp 122), type := 40, pos := "law.go:124", after := #[{ on := 10, ground := Ground.data }, { on := 2, ground := Ground.guard }], guard := some (2, false) }) rfl (by kernel_rfl) (by kernel_rfl) (by kernel_rfl) (fun _ _ _ h => h) (yieldsIf_load_mid (by rfl) _ _ rfl b1 (o1 + j * 67) rfl (rr) _ (fun wz h => hrr.out wz h) Tryz.underlying40 rfl (hri.out)) hHeld ?_
    try simp only [Act.put, List.setIfInBounds_toArray, List.set_cons_zero, List.set_cons_succ]
    refine wpAnyH_take (i := 12) (oi := { dst := some 124, op := Op.fieldAddr 27 (Operand.tmp 13) 2, type := 0, pos := "law.go:124", after := #[{ on := 2, ground := Ground.guard }], guard := some (2, false) }) (v := ?_) rfl (by kernel_rfl) (by kernel_rfl) (by kernel_rfl) (fun _ _ _ h => h) (Or.inl ⟨by rfl, ?_⟩) hHeld ?_
    rotate_left
    · intro wz hSw
      go_simp
      all_goals (with_reducible rfl)
    try simp only [Act.put, List.setIfInBounds_toArray, List.set_cons_zero, List.set_cons_succ]
    refine wpAnyH_take (i := 13) (oi := { dst := some 125, op := Op.load 25 (Operand.tmp 124), type := 25, pos := "law.go:124", after := #[{ on := 12, ground := Ground.data }, { on := 2, ground := Ground.guard }], guard := some (2, false) }) (v := ?_) rfl (by kernel_rfl) (by kernel_rfl) (by kernel_rfl) (fun _ _ _ h => h) (Or.inl ⟨by rfl, ?_⟩) hHeld ?_
    rotate_left
    · intro wz hSw
      have y2' := (hBd1.out.below hSw hBd1.out.lt).at_ (i := 2) (x := .slice (some ⟨b1, o1, none⟩) n rc) rfl
      go_simp
      all_goals (with_reducible rfl)
    try simp only [Act.put, List.setIfInBounds_toArray, List.set_cons_zero, List.set_cons_succ]
    refine wpAnyH_take (i := 14) (oi := { dst := some 126, op := Op.move (Operand.tmp 5), type := 5, pos := "law.go:124", after := #[{ on := 2, ground := Ground.guard }], guard := some (2, false) }) (v := ?_) rfl (by kernel_rfl) (by kernel_rfl) (by kernel_rfl) (fun _ _ _ h => h) (Or.inl ⟨by rfl, ?_⟩) hHeld ?_
    rotate_left
    · intro wz hSw
      go_simp
      all_goals (with_reducible rfl)
    try simp only [Act.put, List.setIfInBounds_toArray, List.set_cons_zero, List.set_cons_succ]
    refine wpAnyH_take (i := 15) (oi := { dst := some 127, op := Op.convert 5 3 (Operand.tmp 126), type := 3, pos := "law.go:124", after := #[{ on := 14, ground := Ground.data }, { on := 2, ground := Ground.guard }], guard := some (2, false) }) (v := ?_) rfl (by kernel_rfl) (by kernel_rfl) (by kernel_rfl) (fun _ _ _ h => h) (Or.inl ⟨by rfl, ?_⟩) hHeld ?_
    rotate_left
    · intro wz hSw
      have hx' := hw5.out
      go_simp
      all_goals (with_reducible rfl)
    try simp only [Act.put, List.setIfInBounds_toArray, List.set_cons_zero, List.set_cons_succ]
    refine wpAnyH_take (i := 16) (oi := { dst := some 128, op := Op.move (Operand.tmp 24), type := 3, pos := "law.go:124", after := #[{ on := 2, ground := Ground.guard }], guard := some (2, false) }) (v := ?_) rfl (by kernel_rfl) (by kernel_rfl) (by kernel_rfl) (fun _ _ _ h => h) (Or.inl ⟨by rfl, ?_⟩) hHeld ?_
    rotate_left
    · intro wz hSw
      go_simp
      all_goals (with_reducible rfl)
    try simp only [Act.put, List.setIfInBounds_toArray, List.set_cons_zero, List.set_cons_succ]
    refine wpAnyH_take (i := 17) (oi := { dst := some 129, op := Op.binOp BinOp.rem 3 (Operand.tmp 127) (Operand.tmp 128) 3, type := 3, pos := "law.go:124", after := #[{ on := 15, ground := Ground.data }, { on := 16, ground := Ground.data }, { on := 2, ground := Ground.guard }], guard := some (2, false) }) (v := ?_) rfl (by kernel_rfl) (by kernel_rfl) (by kernel_rfl) (fun _ _ _ h => h) (Or.inl ⟨by rfl, ?_⟩) hHeld ?_
    rotate_left
    · intro wz hSw
      have ht' := hti.out
      have h1' := hne1
      have h2' := hne2
      have hj' := hwi.out
      go_simp
      all_goals (with_reducible rfl)
    try simp only [Act.put, List.setIfInBounds_toArray, List.set_cons_zero, List.set_cons_succ]
    refine wpAnyH_take (i := 18) (oi := { dst := some 130, op := Op.indexAddr 25 (Operand.tmp 125) (Operand.tmp 129), type := 0, pos := "law.go:124", after := #[{ on := 13, ground := Ground.data }, { on := 17, ground := Ground.data }, { on := 2, ground := Ground.guard }], guard := some (2, false) }) (v := ?_) rfl (by kernel_rfl) (by kernel_rfl) (by kernel_rfl) (fun _ _ _ h => h) (Or.inl ⟨by rfl, ?_⟩) hHeld ?_
    rotate_left
    · intro wz hSw
      have j0' := i0
      have j1' := i1
      go_simp
      all_goals (with_reducible rfl)
    try simp only [Act.put, List.setIfInBounds_toArray, List.set_cons_zero, List.set_cons_succ]
    refine wpAnyH_take (i := 19) (oi := { dst := some 131, op := Op.load 40 (Operand.tmp 130), type := 40, pos := "law.go:124", after := #[{ on := 18, ground := Ground.data }, { on := 2, ground := Ground.guard }], guard := some (2, false) }) rfl (by kernel_rfl) (by kernel_rfl) (by kernel_rfl) (fun _ _ _ h => h) (yieldsIf_load_mid (by rfl) _ _ rfl b1 (o1 + i * 67) rfl (ss) _ (fun wz h => hrs.out wz h) Tryz.underlying40 rfl (hsi.out)) hHeld ?_
    try simp only [Act.put, List.setIfInBounds_toArray, List.set_cons_zero, List.set_cons_succ]
    refine wpAnyH_take (i := 20) (oi := { dst := some 132, op := Op.build 42 #[(0, Operand.tmp 123), (1, Operand.tmp 131)], type := 42, pos := "law.go:124", after := #[{ on := 11, ground := Ground.data }, { on := 19, ground := Ground.data }, { on := 2, ground := Ground.guard }], guard := some (2, false) }) rfl (by kernel_rfl) (by kernel_rfl) (by kernel_rfl) (fun _ _ _ h => h) (hold_build (by rfl) _ _ rfl #[(0, .agg rr.toArray), (1, .agg ss.toArray)] (by simp only [List.map_toArray, List.map_cons, List.map_nil]; rfl) (fun W => hbl.out W)) hHeld ?_
    try simp only [Act.put, List.setIfInBounds_toArray, List.set_cons_zero, List.set_cons_succ]
    refine wpAnyH_ready (rs := [21]) (by kernel_rfl) (by simp) ?_
    refine AllReadyH.cons (o := { dst := some 133, op := Op.call { callee := Callee.value (Operand.func 14), args := #[Operand.tmp 115, Operand.tmp 132], argTypes := #[3, 42] }, type := 45, pos := "law.go:124", after := #[{ on := 3, ground := Ground.data }, { on := 20, ground := Ground.data }, { on := 2, ground := Ground.chain }, { on := 2, ground := Ground.guard }], guard := some (2, false) }) rfl (fun K hK => ?_) AllReadyH.nil
    rw [if_pos (by rfl)]
    show Oper.wp _ _ _ _ K _
    go_simp
    go_at_call 14
    refine (hpr.out _ (HT'.out.below (hbw.out.trans (hHeld.mono hbw.out.size)))).mono ?_
    rintro e w11 ⟨rfl, hst⟩
    refine hK.out _ _ (hHeld.trans (hst.mono hHeld.size)) (fun hHeld2 => ?_)
    clear hHeld hst
    have hHeld := hHeld2
    clear hHeld2
    clear hK K
    try simp only [Act.put, List.setIfInBounds_toArray, List.set_cons_zero, List.set_cons_succ]
    refine wpAnyH_take (i := 22) (oi := { dst := some 134, op := Op.binOp BinOp.eql 45 (Operand.tmp 133) (Operand.const (Value.int IntKind.i64 361)) 45, type := 4, pos := "law.go:124", after := #[{ on := 21, ground := Ground.data }, { on := 2, ground := Ground.guard }], guard := some (2, false) }) (v := ?_) rfl (by kernel_rfl) (by kernel_rfl) (by kernel_rfl) (fun _ _ _ h => h) (Or.inl ⟨by rfl, ?_⟩) hHeld ?_
    rotate_left
    · intro wz hSw
      go_simp
      all_goals (with_reducible rfl)
    try simp only [Act.put, List.setIfInBounds_toArray, List.set_cons_zero, List.set_cons_succ]
    refine wpAnyH_take (i := 23) (oi := { dst := some 135, op := Op.pick (Operand.tmp 114) (Operand.const (Value.bool true)) (Operand.tmp 134), type := 4, pos := "law.go:124", after := #[{ on := 2, ground := Ground.data }, { on := 22, ground := Ground.data }], guard := none }) (v := ?_) rfl (by kernel_rfl) (by kernel_rfl) (by kernel_rfl) (fun _ _ _ h => h) (Or.inl ⟨by rfl, ?_⟩) hHeld ?_
    rotate_left
    · intro wz hSw
      go_simp
      all_goals (with_reducible rfl)
    try simp only [Act.put, List.setIfInBounds_toArray, List.set_cons_zero, List.set_cons_succ]
    refine wpAnyH_take (i := 24) (oi := { dst := some 12, op := Op.assign (Operand.tmp 135), type := 4, pos := "law.go:124", after := #[{ on := 23, ground := Ground.data }, { on := 21, ground := Ground.chain }, { on := 0, ground := Ground.phase }, { on := 1, ground := Ground.phase }, { on := 2, ground := Ground.phase }, { on := 3, ground := Ground.phase }, { on := 4, ground := Ground.phase }, { on := 5, ground := Ground.phase }, { on := 6, ground := Ground.phase }, { on := 7, ground := Ground.phase }, { on := 8, ground := Ground.phase }, { on := 9, ground := Ground.phase }, { on := 10, ground := Ground.phase }, { on := 11, ground := Ground.phase }, { on := 12, ground := Ground.phase }, { on := 13, ground := Ground.phase }, { on := 14, ground := Ground.phase }, { on := 15, ground := Ground.phase }, { on := 16, ground := Ground.phase }, { on := 17, ground := Ground.phase }, { on := 18, ground := Ground.phase }, { on := 19, ground := Ground.phase }, { on := 20, ground := Ground.phase }, { on := 21, ground := Ground.phase }, { on := 22, ground := Ground.phase }, { on := 23, ground := Ground.phase }], guard := none }) (v := ?_) rfl (by kernel_rfl) (by kernel_rfl) (by kernel_rfl) (fun _ _ _ h => h) (Or.inl ⟨by rfl, ?_⟩) hHeld ?_
    rotate_left
    · intro wz hSw
      go_simp
      all_goals (with_reducible rfl)
    try simp only [Act.put, List.setIfInBounds_toArray, List.set_cons_zero, List.set_cons_succ]
    refine wpAnyH_done (by kernel_rfl) ?_ _
    have hend := Lib.hid (hfin.out _ (hbw.out.trans (hHeld.mono hbw.out.size)))
    clear hfin hHeld
    go_wp2_with fail
    exact hend.out
end Go.Proofs.YthnfjkgiaanmhaaGreatDoor
namespace Go.Proofs.YthnfjkgiaanmhaaGreatDoor.lawGHonest
open Go.ChangeShapes Go.WideShapes Go.ChangeAt Go.RowKit Go.Mem
open Go.Proofs.YthnfjkgiaanmhaaGreatDoor

set_option maxRecDepth 100000 in
theorem lifted (os : Os) (started : os.Started) (H : Type) (enc : TypeId × Value → H) :
    ReturnsInHanded {} Tryz.checked os 3 .any (fun w args => (Rows.gossipHonestSpec.pre enc Tryz.prog Tryz.f3 [] false w args ∧ laidMetH Tryz.prog laid2 w) ∧ sizedMet enc Tryz.prog Tryz.f3 (OpenSpec.ofChange Rows.gossipHonestSpec) false w args)
      (Rows.gossipHonestSpec.post enc Tryz.prog Tryz.f3 false true false false) := by
  refine returnsInHanded_of_change_and (C := Tryz.checked) (X := fun w _ => laidMetH Tryz.prog laid2 w) (fun _ _ _ hh h => h.of_heap hh) own started (by kernel_rfl) Tryz.func3
    (ChangeSpec.witness_shaped (enc := enc) (C := Tryz.checked) (os := os) (X := fun w _ => laidMetH Tryz.prog laid2 w) false (World.doorLaid Tryz.prog 400 os) #[.int .i64 0, .slice none 0 0, .slice none 0 0, .slice none 0 0, .int .u8 0, .int .u8 0] 8 rfl (World.shaped_of_RefB (by kernel_rfl) (by kernel_rfl)) (by kernel_rfl) (by kernel_rfl) (by kernel_rfl) (door_met os _)) ?_
  intro W base args ds gs before hval0 hW _ hwt hL _
  have hval : ∀ (j : Nat) t v, Tryz.f3.params[j]? = some t → args[j]? = some v → Value.okWide Tryz.prog W .any base t v := hval0
  have hW' := hW
  obtain ⟨p, q, hA0, hV, rfl, hfz, hnd⟩ := hW
  have hA : DataW.TrodAll enc Tryz.prog W 0 (fun _ => true) true Tryz.f3.params.toList args.toList ds p := hA0
  rw [Tryz.params3] at hA hval
  obtain ⟨v0, vs0, d0, ds0, p0, q0, hargs, rfl, rfl, h0, r0⟩ := trodAll_cons hA
  obtain ⟨v1, vs1, d1, ds1, p1, q1, rfl, rfl, rfl, h1, r1⟩ := trodAll_cons r0
  obtain ⟨v2, vs2, d2, ds2, p2, q2, rfl, rfl, rfl, h2, r2⟩ := trodAll_cons r1
  obtain ⟨v3, vs3, d3, ds3, p3, q3, rfl, rfl, rfl, h3, r3⟩ := trodAll_cons r2
  obtain ⟨v4, vs4, d4, ds4, p4, q4, rfl, rfl, rfl, h4, r4⟩ := trodAll_cons r3
  obtain ⟨v5, vs5, d5, ds5, p5, q5, rfl, rfl, rfl, h5, r5⟩ := trodAll_cons r4
  obtain ⟨rfl, rfl, rfl⟩ := trodAll_nil r5
  obtain rfl : args = #[v0, v1, v2, v3, v4, v5] := by cases args; simp_all
  obtain ⟨rfl, rfl⟩ := trodVars_none hV
  have lt0 : ∀ x ∈ p0, x.block < W.heap.size := by obtain ⟨m, hm⟩ := h0; exact DataW.trod_lt m _ _ _ hm
  have lt1 : ∀ x ∈ p1, x.block < W.heap.size := by obtain ⟨m, hm⟩ := h1; exact DataW.trod_lt m _ _ _ hm
  have lt2 : ∀ x ∈ p2, x.block < W.heap.size := by obtain ⟨m, hm⟩ := h2; exact DataW.trod_lt m _ _ _ hm
  have lt3 : ∀ x ∈ p3, x.block < W.heap.size := by obtain ⟨m, hm⟩ := h3; exact DataW.trod_lt m _ _ _ hm
  have lt4 : ∀ x ∈ p4, x.block < W.heap.size := by obtain ⟨m, hm⟩ := h4; exact DataW.trod_lt m _ _ _ hm
  have lt5 : ∀ x ∈ p5, x.block < W.heap.size := by obtain ⟨m, hm⟩ := h5; exact DataW.trod_lt m _ _ _ hm
  have k0' := h0
  have k1' := h1
  have k2' := h2
  have k3' := h3
  have k4' := h4
  have k5' := h5
  obtain ⟨x0, rfl⟩ := okWide_int Tryz.underlying3 (hval 0 3 v0 rfl rfl)
  obtain ⟨m0, hm0⟩ := h0
  obtain ⟨x0', e0, i0⟩ := open_int1 (cs := [.int .i64 x0]) (by simpa [Value.cells] using hm0)
  obtain rfl : x0 = x0' := by simpa using e0
  clear hm0 e0
  obtain ⟨a1, n1, c1, rfl⟩ := okWide_slice Tryz.underlying22 (hval 1 22 v1 rfl rfl)
  obtain ⟨m1, hm1⟩ := h1
  obtain ⟨_, _, _, l1, e1, S1⟩ := open_lss (cs := [.slice a1 n1 c1]) (by simpa [Value.cells] using hm1)
  simp only [List.cons.injEq, Value.slice.injEq, and_true] at e1
  obtain ⟨rfl, rfl, rfl⟩ := e1
  clear hm1
  obtain ⟨a2, n2, c2, rfl⟩ := okWide_slice Tryz.underlying23 (hval 2 23 v2 rfl rfl)
  obtain ⟨m2, hm2⟩ := h2
  obtain ⟨_, _, _, l2, e2, S2⟩ := open_bytes' (cs := [.slice a2 n2 c2]) (by simpa [Value.cells] using hm2)
  simp only [List.cons.injEq, Value.slice.injEq, and_true] at e2
  obtain ⟨rfl, rfl, rfl⟩ := e2
  clear hm2
  obtain ⟨a3, n3, c3, rfl⟩ := okWide_slice Tryz.underlying23 (hval 3 23 v3 rfl rfl)
  obtain ⟨m3, hm3⟩ := h3
  obtain ⟨_, _, _, l3, e3, S3⟩ := open_bytes' (cs := [.slice a3 n3 c3]) (by simpa [Value.cells] using hm3)
  simp only [List.cons.injEq, Value.slice.injEq, and_true] at e3
  obtain ⟨rfl, rfl, rfl⟩ := e3
  clear hm3
  obtain ⟨z4, rfl⟩ := okWide_int Tryz.underlying5 (hval 4 5 v4 rfl rfl)
  obtain ⟨m4, hm4⟩ := h4
  obtain ⟨x4, e4, i4⟩ := open_u8 (cs := [.int .u8 z4]) (by simpa [Value.cells] using hm4)
  obtain rfl : z4 = (x4 : Int) := by simpa using e4
  clear hm4 e4
  obtain ⟨z5, rfl⟩ := okWide_int Tryz.underlying5 (hval 5 5 v5 rfl rfl)
  obtain ⟨m5, hm5⟩ := h5
  obtain ⟨x5, e5, i5⟩ := open_u8 (cs := [.int .u8 z5]) (by simpa [Value.cells] using hm5)
  obtain rfl : z5 = (x5 : Int) := by simpa using e5
  clear hm5 e5
  have hT := tabs_of_laid hL
  clear hA0 hval0
  refine (ghonest_walk x0 i0 a1 n1 c1 l1 a2 n2 c2 l2 a3 n3 c3 l3 x4 i4 x5 i5 W hT S1 S2 S3).mono fun e W' ⟨he, bel⟩ => ?_
  subst he
  exact ⟨_, rfl, _, _, _, [], _, [], hW', trodAll_mk1 (shut_bool Tryz.underlying4 _),
    (trodAll_cons_mk (Below.trod laidOut (by kernel_rfl) (of_decide_eq_true (by kernel_rfl)) k0' bel lt0) (trodAll_cons_mk (Below.trod laidOut (by kernel_rfl) (of_decide_eq_true (by kernel_rfl)) k1' bel lt1) (trodAll_cons_mk (Below.trod laidOut (by kernel_rfl) (of_decide_eq_true (by kernel_rfl)) k2' bel lt2) (trodAll_cons_mk (Below.trod laidOut (by kernel_rfl) (of_decide_eq_true (by kernel_rfl)) k3' bel lt3) (trodAll_cons_mk (Below.trod laidOut (by kernel_rfl) (of_decide_eq_true (by kernel_rfl)) k4' bel lt4) (trodAll_cons_mk (Below.trod laidOut (by kernel_rfl) (of_decide_eq_true (by kernel_rfl)) k5' bel lt5) trodAll_mk0)))))), rfl, bel.frame _, fun h => by cases h⟩

theorem over : Rows.GossipHonestSaid :=
  OpenClaim.holds_of_wide 3 Tryz.f3 rfl rfl rfl rfl rfl rfl rfl ⟨rfl, rfl, rfl, rfl, rfl⟩ rfl rfl rfl rfl rfl (by kernel_rfl) Tryz.func3 (by kernel_rfl)
    (of_decide_eq_true (by kernel_rfl)) (by unfold Func.isWrapper; first | (rw [if_pos (by decide +kernel)]; kernel_rfl) | (rw [if_neg (by decide +kernel)]; exact ⟨rfl, rfl⟩))
    (fun os started H enc _ => lifted os started H enc)

theorem proved : Rows.GossipHonestCardSaid :=
  Claim7.holds_tied_plain_at .later [] [.data, .data, .sentinel] true (true, "c578d5295a2e4adb68b76fd72e8b48f6cb8355a5e326fb92d1d1f12a6d59b363") false
    over (fun _ h => by cases h) (by kernel_rfl) (fun _ h => by cases h) gossipHonest_row_tie rfl ⟨rfl, rfl⟩ (by kernel_rfl) rfl
    (fun f fn hf hfn => by
      obtain rfl : f = 3 := Option.some.inj ((show Tryz.prog.funcNamed "chartroom/chartroomlaw36.GossipHonest" = some 3 by kernel_rfl).symm.trans hf) |>.symm
      obtain rfl : fn = Tryz.f3 := (Option.some.inj (Tryz.func3.symm.trans hfn)).symm
      exact ⟨by kernel_rfl, fun j t ht => by
        rw [Tryz.params3] at ht
        have hm : t ∈ [3, 22, 23, 23, 5, 5] := by simpa using Array.mem_of_getElem? ht
        have hall : ([3, 22, 23, 23, 5, 5].all fun u => !Tryz.prog.wantsStandIn u) = true := by kernel_rfl
        exact (show Tryz.prog.wantsStandIn t = false by simpa using List.all_eq_true.1 hall t hm)⟩)
    (by kernel_rfl)
#print axioms proved
end Go.Proofs.YthnfjkgiaanmhaaGreatDoor.lawGHonest
