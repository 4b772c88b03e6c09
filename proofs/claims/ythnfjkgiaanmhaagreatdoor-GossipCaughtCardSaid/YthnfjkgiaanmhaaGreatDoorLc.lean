/- the law GossipCaught walked -/
import Derived.Test.YthnfjkgiaanmhaaGreatDoorGd
import Derived.Test.YthnfjkgiaanmhaaGreatDoorRe
import Derived.Test.YthnfjkgiaanmhaaGreatDoorCards
import Derived.Test.YthnfjkgiaanmhaaGreatDoorTie
import Derived.SevenTiedAt
import Derived.Deep.DeepHandedRow
import Derived.Deep.DeepWitnessRowRef
namespace Go.Dr
open Go.Proofs.YthnfjkgiaanmhaaGreatDoor (keyOk pubB)
section
variable {b k : Int}
theorem hs_grow {D : Dir} (hb : Grp.ok b = true) (hk : keyOk k = true) (H : Hs b k D) (hn : D.rs.length < 65536) (x : Lst) : Hs b k (growS b D x) ∧ (growS b D x).rs.length = D.rs.length + 1 := by
 unfold growS
 rcases hs_set hb hk H hn x with e | ⟨E, e, hE, hl⟩
 · rw [e, if_neg (by decide)]
   obtain ⟨e2, hT⟩ := hs_tick hb hk H hn
   rw [e2, if_pos rfl]
   exact ⟨hT, by simp⟩
 · rw [e, if_pos rfl]
   exact ⟨hE, hl⟩
theorem hs_grown (hb : Grp.ok b = true) (hk : keyOk k = true) : ∀ (l : List Lst) {D : Dir}, Hs b k D → D.rs.length + l.length ≤ 65536 → Hs b k (grownD b D l) ∧ (grownD b D l).rs.length = D.rs.length + l.length
 | [], _, H, _ => ⟨H, rfl⟩
 | x :: t, D, H, hn => by
  rw [List.length_cons] at hn
  obtain ⟨h1, h2⟩ := hs_grow hb hk H (by omega) x
  obtain ⟨h3, h4⟩ := hs_grown hb hk t h1 (by omega)
  refine ⟨h3, ?_⟩
  rw [show grownD b D (x :: t) = grownD b (growS b D x) t from rfl, h4, h2, List.length_cons]
  omega
end
section
variable {b pub : Int} {R : List Rt}
theorem seen_all (H : Hist b pub R) : ∀ (l : List Nat) {w : Wt}, Seen b pub R w → ∃ v, seenW b R w l = (v, true) ∧ Seen b pub R v ∧ (∀ x ∈ w.rs, x ∈ v.rs) ∧ v.rs.length ≤ w.rs.length + l.length
 | [], w, S => ⟨w, rfl, S, fun _ h => h, by simp⟩
 | k :: t, w, S => by
  unfold seenW
  cases e : R[k % R.length]? with
  | none => exact ⟨w, rfl, S, fun _ h => h, by simp⟩
  | some r =>
   obtain ⟨v, h1, h2, h3, h4⟩ := seen_step H S (List.mem_of_getElem? e)
   have hm := acc_ok (b := b) (w := w) (r := r) (by rw [h1])
   rw [h1] at hm
   obtain ⟨v2, h5, h6, h7, h8⟩ := seen_all H t h2
   simp only [h1, if_true]
   exact ⟨v2, h5, h6, fun x hx => h7 x (hm.2.2.2.1 x hx), by rw [List.length_cons]; omega⟩
end
end Go.Dr
namespace Go.Proofs.YthnfjkgiaanmhaaGreatDoor
open Go.RowKit Go.Mem
open Go.Dr (Lst Rt Dir Wt)

section
variable {H : Type} {enc : TypeId × Value → H} {W : World}
theorem cellsSl : Tryz.prog.cellsOf 23 = 1 := by kernel_rfl
theorem open_bytes' {fuel : Nat} {cs : List Value} {x : DataW H × List MemPlace} (h : DataW.trod enc Tryz.prog W 0 (fun _ => true) true fuel 23 cs = some x) : ∃ a n c l, cs = [.slice a n c] ∧ BW W a n c l := by
 rcases Deep.open_slice Tryz.underlying23 h with ⟨rfl, _⟩ | ⟨ad, len, cap, m, k, D, Pl, rfl, hb, hl, hm, hmm, _, hx⟩
 · exact ⟨none, 0, 0, [], rfl, .inl ⟨rfl, Nat.le_refl _, by decide, fun _ => ⟨rfl, rfl⟩, (fun ad e => by cases e), (fun x hx => by cases hx)⟩⟩
 · simp at hmm
   subst hmm
   rw [cellsU8] at hx
   by_cases h0 : m = 0
   · subst h0
     obtain rfl : len = 0 := by omega
     exact ⟨some ad, 0, 0, [], rfl, .inr ⟨rfl, rfl, rfl, ad, rfl⟩⟩
   · have each : ∀ i, i < m → ∃ y : Nat, W.cell? (ad.add i) = some (.int .u8 (y : Int)) ∧ y < 256 := by
      intro i hi
      obtain ⟨cs', h1, h2⟩ := hx i hi
      rw [Nat.mul_one] at h1
      obtain ⟨_, hlen, hcell⟩ := World.cells?_some h1
      obtain ⟨y, rfl, hy⟩ := open_u8 h2
      have e0 := hcell 0 (by omega)
      have z : ∀ q : Addr, q.add 0 = q := fun q => by unfold Addr.add; cases q; simp
      rw [z] at e0
      exact ⟨y, by simpa using e0, hy⟩
     obtain ⟨T, hT⟩ := Deep.choose_lt each
     obtain ⟨b, off, spot⟩ := ad
     have c0 := (hT 0 (by omega)).1
     have hspot : spot = none := by simpa [Addr.add] using World.cell?_spot c0
     subst hspot
     have hbl : b < W.heap.size := World.block_lt_of_cell? W _ (by simpa [Addr.add] using c0)
     refine ⟨_, len, m, (List.range len).map T, rfl, .inl ⟨by simp, hl, by unfold maxLen at hm; omega, (fun e => by cases e), fun ad e => ?_, fun y hy => ?_⟩⟩
     · cases e
       refine ⟨b, off, rfl, hbl, fun i y hy => ?_⟩
       have hi : i < len := by have := (List.getElem?_eq_some_iff.1 hy).1; simpa using this
       have hti : y = T i := by rw [List.getElem?_map, List.getElem?_range hi] at hy; simpa using hy.symm
       subst hti
       have g0 := (hT i (by omega)).1
       rwa [Addr.add_lit] at g0
     · obtain ⟨i, hi, rfl⟩ := List.mem_map.1 hy
       exact (hT i (by have := List.mem_range.1 hi; omega)).2

end
end Go.Proofs.YthnfjkgiaanmhaaGreatDoor
namespace Go.Proofs.YthnfjkgiaanmhaaGreatDoor
open Go.RowKit Go.Mem
open Go.Dr (Lst Rt Dir Wt)

theorem pub_i64 (b x : Int) : I64 (pubB b x) := by
 have h := pubB_bd b x
 exact ⟨by omega, by omega⟩

set_option maxRecDepth 100000 in
set_option maxHeartbeats 40000000 in
theorem gcaught_walk (k : Int) (ik : I64 k) (a : Option Addr) (n c : Nat) (l : List Lst) (a2 : Option Addr) (n2 c2 : Nat) (l2 : List Lst) (a3 : Option Addr) (n3 c3 : Nat) (l3 : List Lst) (x4 : Nat) (i4 : x4 < 256) (a5 : Option Addr) (n5 c5 : Nat) (bl5 : List Nat) (a6 : Option Addr) (n6 c6 : Nat) (bl6 : List Nat) (w : World) (HT : Tabs w) (S1 : GS (fun _ => True) w a n c l) (S2 : GS (fun _ => True) w a2 n2 c2 l2) (S3 : GS (fun _ => True) w a3 n3 c3 l3) (S5 : BW w a5 n5 c5 bl5) (S6 : BW w a6 n6 c6 bl6) :
 Calls Tryz.prog 4 #[.int .i64 k, .slice a n c, .slice a2 n2 c2, .slice a3 n3 c3, .int .u8 (x4 : Int), .slice a5 n5 c5, .slice a6 n6 c6] w (RetBo true w) := by
 have HT' := Lib.hid HT; have ik' := Lib.hid ik; have i4' := Lib.hid i4
 have hG1 := Lib.hid S1; have hG2 := Lib.hid S2; have hG3 := Lib.hid S3; have hB5 := Lib.hid S5; have hB6 := Lib.hid S6
 have hln : Hid (l.length = n) := RS.len S1
 have hln2 : Hid (l2.length = n2) := RS.len S2
 have hln3 : Hid (l3.length = n3) := RS.len S3
 have hbw : Hid (Below w.heap.size w w) := Below.refl _ w
 clear HT ik i4 S1 S2 S3 S5 S6
 obtain ⟨X, hX⟩ : ∃ X, X = RetBo true w := ⟨_, rfl⟩
 have hfin : Hid (∀ W, Below w.heap.size w W → X (.returned (.bool true)) W) := fun W hb => by rw [hX]; exact ⟨rfl, hb⟩
 rw [← hX]
 clear hX
 obtain ⟨zS, hzS⟩ : ∃ z, Hid (spC Go.Dr.zeroS = z) := ⟨_, rfl⟩
 have hzo : Hid ((Tryz.prog.info? 42).map (·.size) = some zS.length) := by rw [← hzS.out]; exact sizeSp' okZS
 have hz1 : Hid (∀ u ∈ zS, u.oneCell' = true) := by rw [← hzS.out]; exact spC_one _
 have hzl : Hid (zS.length = (spC Go.Dr.zeroS).length) := by show _ = _; rw [← hzS.out]
 have hzr : Hid (∀ W, (Instr.build 42 #[]).run Tryz.prog W = .ok (.agg zS.toArray) W) := fun W => by rw [← hzS.out]; exact split_zero W
 go_enter Tryz.func4, Tryz.ntmps4
 go_wp2_with fail
 refine (sane36_any _ (HT'.out.below hbw.out)).mono ?_
 rintro e w1 ⟨rfl, hst⟩
 replace hbw := Lib.hid (hbw.out.trans (hst.mono hbw.out.size))
 clear hst
 obtain ⟨p0, hp0⟩ : ∃ p, Hid ((Go.Dr.newD k).1.priv = p) := ⟨_, rfl⟩
 obtain ⟨pub, hpub⟩ : ∃ p, Hid ((publicK 4 k).1 = p) := ⟨_, rfl⟩
 obtain ⟨Q, hQ⟩ : ∃ q, Hid (keyOk k = q) := ⟨_, rfl⟩
 have hop := Lib.hid (fun W => open36_any k W)
 unfold Open36Post at hop
 rw [hp0.out, hpub.out, hQ.out] at hop
 go_wp2_with fail
 refine (hop.out _).mono ?_
 rintro e w2 ⟨rfl, hst⟩
 replace hbw := Lib.hid (hbw.out.trans (hst.mono hbw.out.size))
 clear hst hop
 have hws2 : Hid (w.heap.size ≤ w2.heap.size) := hbw.out.size
 obtain ⟨v2, hP⟩ : ∃ V, Hid (PutR 27 (w2.alloc (.cells (dirC 0 none 0 0 none 0 0 : List Value).toArray 27)) V w2.heap.size 27 (dirC p0 none 0 0 none 0 0)) := put_row (Blk.new w2 27 (dirC 0 none 0 0 none 0 0)) rfl (sizeDr) (dr_one _ _ _ _ _ _ _)
 have hst := below_grown ((Below.refl _ w2).alloc (Nat.le_refl _) _) hP.out.grown (by simp) (Nat.le_refl _)
 replace hbw := Lib.hid (hbw.out.trans (hst.mono hbw.out.size))
 clear hst
 have hBd := Lib.hid hP.out.blk
 go_upto_region 4 with (first
  | (refine wpList_store_mid (by rfl) 27 (.tmp 15) (.tmp 45) (by rfl) w2.heap.size 0 (dirC p0 none 0 0 none 0 0).toArray (by rfl) (by rfl) hP.out.there hP.out.info (by simpa using hP.out.one) ?_
     generalize hWq : World.setCells _ _ _ _ = Wa
     obtain rfl : v2 = Wa := by rw [← hWq]; exact hP.out.eq
     clear hWq))
 clear hP
 cases Q with
 | false =>
  have hend := Lib.hid (hfin.out _ hbw.out)
  clear hfin
  go_wp2_with fail
  exact hend.out
 | true =>
  by_cases h1 : n ≤ 3
  rotate_left
  · have d1 : decide ((3 : Int) < (n : Int)) = true := by simp; omega
    have d1b : decide (3 < n) = true := by simp; omega
    have hend := Lib.hid (hfin.out _ hbw.out)
    clear hfin
    go_wp2_with fail
    exact hend.out
  have d1 : decide ((3 : Int) < (n : Int)) = false := by simp; omega
  have d1b : decide (3 < n) = false := by simp; omega
  by_cases h2 : n2 ≤ 4
  rotate_left
  · have d2 : decide ((4 : Int) < (n2 : Int)) = true := by simp; omega
    have d2b : decide (4 < n2) = true := by simp; omega
    have hend := Lib.hid (hfin.out _ hbw.out)
    clear hfin
    go_wp2_with fail
    exact hend.out
  have d2 : decide ((4 : Int) < (n2 : Int)) = false := by simp; omega
  have d2b : decide (4 < n2) = false := by simp; omega
  by_cases h3 : n3 ≤ 4
  rotate_left
  · have d3 : decide ((4 : Int) < (n3 : Int)) = true := by simp; omega
    have d3b : decide (4 < n3) = true := by simp; omega
    have hend := Lib.hid (hfin.out _ hbw.out)
    clear hfin
    go_wp2_with fail
    exact hend.out
  have d3 : decide ((4 : Int) < (n3 : Int)) = false := by simp; omega
  have d3b : decide (4 < n3) = false := by simp; omega
  by_cases h5 : n5 ≤ 5
  rotate_left
  · have d5 : decide ((5 : Int) < (n5 : Int)) = true := by simp; omega
    have d5b : decide (5 < n5) = true := by simp; omega
    have hend := Lib.hid (hfin.out _ hbw.out)
    clear hfin
    go_wp2_with fail
    exact hend.out
  have d5 : decide ((5 : Int) < (n5 : Int)) = false := by simp; omega
  have d5b : decide (5 < n5) = false := by simp; omega
  by_cases h6 : n6 ≤ 5
  rotate_left
  · have d6 : decide ((5 : Int) < (n6 : Int)) = true := by simp; omega
    have d6b : decide (5 < n6) = true := by simp; omega
    have hend := Lib.hid (hfin.out _ hbw.out)
    clear hfin
    go_wp2_with fail
    exact hend.out
  have d6 : decide ((5 : Int) < (n6 : Int)) = false := by simp; omega
  have d6b : decide (5 < n6) = false := by simp; omega
  obtain rfl : p0 = k := by rw [← hp0.out]; unfold Go.Dr.newD; rw [hQ.out]; rfl
  have hpe : Hid (pub = pubB 4 p0) := by show _ = _; rw [← hpub.out, publicK_t hQ.out]
  have hpi : Hid (I64 pub) := by show I64 _; rw [hpe.out]; exact pub_i64 _ _
  obtain ⟨hgs, hgl⟩ := Go.Dr.hs_grown base_ok hQ.out l (Go.Dr.hs_new 4 p0) (by have := hln.out; simp; omega)
  obtain ⟨E, hE⟩ : ∃ E, Hid (Go.Dr.grownD 4 ⟨p0, [], []⟩ l = E) := ⟨_, rfl⟩
  rw [hE.out] at hgs hgl
  rw [List.length_nil, Nat.zero_add, hln.out] at hgl
  obtain ⟨hgs2, hgl2⟩ := Go.Dr.hs_grown base_ok hQ.out l2 hgs (by have := hln2.out; omega)
  obtain ⟨hgs3, hgl3⟩ := Go.Dr.hs_grown base_ok hQ.out l3 hgs (by have := hln3.out; omega)
  obtain ⟨E2, hE2⟩ : ∃ E2, Hid (Go.Dr.grownD 4 E l2 = E2) := ⟨_, rfl⟩
  obtain ⟨E3, hE3⟩ : ∃ E3, Hid (Go.Dr.grownD 4 E l3 = E3) := ⟨_, rfl⟩
  rw [hE2.out] at hgs2 hgl2
  rw [hE3.out] at hgs3 hgl3
  obtain ⟨m2, hm2⟩ : ∃ m, Hid (E2.rs.length = m) := ⟨_, rfl⟩
  obtain ⟨m3, hm3⟩ : ∃ m, Hid (E3.rs.length = m) := ⟨_, rfl⟩
  have hEl := Lib.hid hgl
  have hst2 : Hid (Go.Dr.Hist 4 pub E2.rs) := by rw [hpe.out]; exact hgs2.hist
  have hst3 : Hid (Go.Dr.Hist 4 pub E3.rs) := by rw [hpe.out]; exact hgs3.hist
  have hEp : Hid (E.priv = p0) := hgs.priv
  have hEp2 : Hid (E2.priv = p0) := hgs2.priv
  have hEp3 : Hid (E3.priv = p0) := hgs3.priv
  have hm2s : Hid (m2 ≤ 7) := by have := hm2.out; show _ ≤ _; have := hln2.out; omega
  have hm3s : Hid (m3 ≤ 7) := by have := hm3.out; show _ ≤ _; have := hln3.out; omega
  clear hp0 hpub hgl hgl2 hgl3 hgs hgs2 hgs3
  obtain ⟨lm, hlm⟩ : ∃ m, Hid (E.ls.length = m) := ⟨_, rfl⟩
  obtain ⟨lm2, hlm2⟩ : ∃ m, Hid (E2.ls.length = m) := ⟨_, rfl⟩
  obtain ⟨lm3, hlm3⟩ : ∃ m, Hid (E3.ls.length = m) := ⟨_, rfl⟩
  have hgr := Lib.hid (fun (W : World) hT hM hG => grown_at (K := fun _ => False) (K2 := fun _ => True) (D := ⟨p0, [], []⟩) (i := 0) (j := 0) hE.out rfl rfl hlm.out hEl.out (la := none) (lc := 0) (ra := none) (rc := 0) (a := a) (n := n) (c := c) (w := W) hT hM hG)
  rw [hEp.out] at hgr
  have y0 := hBd.out.at_ (i := 0) (x := .int .i64 p0) rfl
  have y1 := hBd.out.at_ (i := 1) (x := .slice none 0 0) rfl
  have y2 := hBd.out.at_ (i := 2) (x := .slice none 0 0) rfl
  go_wp2_with fail
  clear y0 y1 y2 d1 d1b d2 d2b d3 d3b d5 d5b d6 d6b
  have hdl : Hid (w2.heap.size < v2.heap.size) := hBd.out.lt
  refine (hgr.out _ (HT'.out.below hbw.out) ⟨ik'.out, RS.nil0 _ _ _, RS.nil0 _ _ _⟩ (hG1.out.below hbw.out)).mono ?_
  rintro e w4 ⟨la, lc, ra, rc, rfl, hD40, hst⟩
  replace hBd := Lib.hid (hBd.out.below hst hBd.out.lt)
  replace hbw := Lib.hid (hbw.out.trans (hst.mono hbw.out.size))
  clear hst hgr
  obtain ⟨v4, hP⟩ : ∃ V, Hid (PutR 27 w4 V w2.heap.size 27 (dirC p0 la lm lc ra n rc)) := put_row hBd.out rfl sizeDr (dr_one _ _ _ _ _ _ _)
  replace hBd := Lib.hid hP.out.blk
  have hK40 : DM (fun b => v2.heap.size ≤ b) w4 E la lm lc ra n rc := hD40.imp (fun b _ hb => hb.elim (fun h => h.1.elim) id)
  have hD4 : Hid (DM (fun _ => True) v4 E la lm lc ra n rc) := (hK40.keep (Keeps.grown (K := fun b => v2.heap.size ≤ b) hP.out.grown (fun b (hb : v2.heap.size ≤ b) e => by have := hdl.out; omega))).imp (fun _ _ _ => trivial)
  replace hbw := Lib.hid (below_grown hbw.out hP.out.grown hbw.out.size hws2.out)
  clear hD40 hK40 hws2 hdl
  go_upto_region 7 with (first
   | (refine wpList_store_mid (by rfl) 27 (.tmp 15) (.tmp 77) (by rfl) w2.heap.size 0 (dirC p0 la lm lc ra n rc).toArray (by rfl) (by rfl) hP.out.there hP.out.info (by simpa using hP.out.one) ?_
      generalize hWq : World.setCells _ _ _ _ = Wa
      obtain rfl : v4 = Wa := by rw [← hWq]; exact hP.out.eq
      clear hWq))
  clear hP
  have hg2 := Lib.hid (fun (W : World) hT hM hG => grown_at (K := fun b => b < v4.heap.size) (K2 := fun _ => True) (D := E) hE2.out hlm.out hEl.out hlm2.out hm2.out (la := la) (lc := lc) (ra := ra) (rc := rc) (a := a2) (n := n2) (c := c2) (w := W) hT hM hG)
  have hg3 := Lib.hid (fun (W : World) hT hM hG => grown_at (K := fun b => b < v4.heap.size) (K2 := fun _ => True) (D := E) hE3.out hlm.out hEl.out hlm3.out hm3.out (la := la) (lc := lc) (ra := ra) (rc := rc) (a := a3) (n := n3) (c := c3) (w := W) hT hM hG)
  rw [hEp.out, hEp2.out] at hg2
  rw [hEp.out, hEp3.out] at hg3
  have hD9 : Hid (DM (fun b => b < v4.heap.size) v4 E la lm lc ra n rc) := hD4.out.imp (fun b hb _ => hb)
  have hBd1 := hBd
  clear hD4
  refine share (G := ∀ (q6 : Nat) (q7 : Nat) (p5 : Option Addr) (o5 : Nat) (s5 : Option Addr) (e5 : Nat) (p6 : Option Addr) (o6 : Nat) (s6 : Option Addr) (e6 : Nat) (WZ : World), (Below v4.heap.size v4 WZ) → (Blk WZ q6 27 (dirC p0 p5 lm2 o5 s5 m2 e5)) → (v4.heap.size ≤ q6) → (Blk WZ q7 27 (dirC p0 p6 lm3 o6 s6 m3 e6)) → (v4.heap.size ≤ q7) → (q6 ≠ q7) → (DM (fun b => b ≠ q6 ∧ b ≠ q7) WZ E2 p5 lm2 o5 s5 m2 e5) → (DM (fun b => b ≠ q6 ∧ b ≠ q7) WZ E3 p6 lm3 o6 s6 m3 e6) → (?GfinR7 : Nat → Nat → Option Addr → Nat → Option Addr → Nat → Option Addr → Nat → Option Addr → Nat → World → Prop) q6 q7 p5 o5 s5 e5 p6 o6 s6 e6 WZ) ?hfinR7 ?kfinR7
  case' hfinR7 =>
   intro KfinR7
  case' hfinR7 =>
   refine share (G := ∀ (q6 : Nat) (q7 : Nat) (p5 : Option Addr) (o5 : Nat) (s5 : Option Addr) (e5 : Nat) (p6 : Option Addr) (o6 : Nat) (s6 : Option Addr) (e6 : Nat) (WZ : World), (Below v4.heap.size v4 WZ) → (Blk WZ q6 27 (dirC p0 p5 lm2 o5 s5 m2 e5)) → (v4.heap.size ≤ q6) → (Blk WZ q7 27 (dirC 0 none 0 0 none 0 0)) → (v4.heap.size ≤ q7) → (q6 ≠ q7) → (DM (fun b => b ≠ q6 ∧ b ≠ q7) WZ E2 p5 lm2 o5 s5 m2 e5) → (DM (fun b => b ≠ q6 ∧ b ≠ q7) WZ E3 p6 lm3 o6 s6 m3 e6) → (?Gs3_6_7_R7 : Nat → Nat → Option Addr → Nat → Option Addr → Nat → Option Addr → Nat → Option Addr → Nat → World → Prop) q6 q7 p5 o5 s5 e5 p6 o6 s6 e6 WZ) ?hs3_6_7_R7 ?ks3_6_7_R7
  case' hs3_6_7_R7 => intro Ks3_6_7_R7
  case' hs3_6_7_R7 =>
   refine share (G := ∀ (q6 : Nat) (q7 : Nat) (p5 : Option Addr) (o5 : Nat) (s5 : Option Addr) (e5 : Nat) (p6 : Option Addr) (o6 : Nat) (s6 : Option Addr) (e6 : Nat) (WZ : World), (Below v4.heap.size v4 WZ) → (Blk WZ q6 27 (dirC 0 none 0 0 none 0 0)) → (v4.heap.size ≤ q6) → (Blk WZ q7 27 (dirC 0 none 0 0 none 0 0)) → (v4.heap.size ≤ q7) → (q6 ≠ q7) → (DM (fun b => b ≠ q6 ∧ b ≠ q7) WZ E2 p5 lm2 o5 s5 m2 e5) → (DM (fun b => b ≠ q6 ∧ b ≠ q7) WZ E3 p6 lm3 o6 s6 m3 e6) → (?Gs2_6_7_R7 : Nat → Nat → Option Addr → Nat → Option Addr → Nat → Option Addr → Nat → Option Addr → Nat → World → Prop) q6 q7 p5 o5 s5 e5 p6 o6 s6 e6 WZ) ?hs2_6_7_R7 ?ks2_6_7_R7
  case' hs2_6_7_R7 => intro Ks2_6_7_R7
  case' hs2_6_7_R7 =>
   refine share (G := ∀ (q6 : Nat) (p5 : Option Addr) (o5 : Nat) (s5 : Option Addr) (e5 : Nat) (p6 : Option Addr) (o6 : Nat) (s6 : Option Addr) (e6 : Nat) (WZ : World), (Below v4.heap.size v4 WZ) → (Blk WZ q6 27 (dirC 0 none 0 0 none 0 0)) → (v4.heap.size ≤ q6) → (DM (fun b => b ≠ q6) WZ E2 p5 lm2 o5 s5 m2 e5) → (DM (fun b => b ≠ q6) WZ E3 p6 lm3 o6 s6 m3 e6) → (?Gs2_6_R7 : Nat → Option Addr → Nat → Option Addr → Nat → Option Addr → Nat → Option Addr → Nat → World → Prop) q6 p5 o5 s5 e5 p6 o6 s6 e6 WZ) ?hs2_6_R7 ?ks2_6_R7
  case' hs2_6_R7 => intro Ks2_6_R7
  case' hs2_6_R7 =>
   refine share (G := ∀ (q7 : Nat) (p5 : Option Addr) (o5 : Nat) (s5 : Option Addr) (e5 : Nat) (p6 : Option Addr) (o6 : Nat) (s6 : Option Addr) (e6 : Nat) (WZ : World), (Below v4.heap.size v4 WZ) → (Blk WZ q7 27 (dirC 0 none 0 0 none 0 0)) → (v4.heap.size ≤ q7) → (DM (fun b => b ≠ q7) WZ E2 p5 lm2 o5 s5 m2 e5) → (DM (fun b => b ≠ q7) WZ E3 p6 lm3 o6 s6 m3 e6) → (?Gs2_7_R7 : Nat → Option Addr → Nat → Option Addr → Nat → Option Addr → Nat → Option Addr → Nat → World → Prop) q7 p5 o5 s5 e5 p6 o6 s6 e6 WZ) ?hs2_7_R7 ?ks2_7_R7
  case' hs2_7_R7 => intro Ks2_7_R7
  case' hs2_7_R7 =>
   refine share (G := ∀ (p5 : Option Addr) (o5 : Nat) (s5 : Option Addr) (e5 : Nat) (p6 : Option Addr) (o6 : Nat) (s6 : Option Addr) (e6 : Nat) (WZ : World), (Below v4.heap.size v4 WZ) → (DM (fun _ => True) WZ E2 p5 lm2 o5 s5 m2 e5) → (DM (fun _ => True) WZ E3 p6 lm3 o6 s6 m3 e6) → (?Gs2_R7 : Option Addr → Nat → Option Addr → Nat → Option Addr → Nat → Option Addr → Nat → World → Prop) p5 o5 s5 e5 p6 o6 s6 e6 WZ) ?hs2_R7 ?ks2_R7
  case' hs2_R7 => intro Ks2_R7
  case' hs2_R7 =>
   refine share (G := ∀ (q6 : Nat) (q7 : Nat) (p5 : Option Addr) (o5 : Nat) (s5 : Option Addr) (e5 : Nat) (WZ : World), (Below v4.heap.size v4 WZ) → (Blk WZ q6 27 (dirC 0 none 0 0 none 0 0)) → (v4.heap.size ≤ q6) → (Blk WZ q7 27 (dirC 0 none 0 0 none 0 0)) → (v4.heap.size ≤ q7) → (q6 ≠ q7) → (DM (fun b => b ≠ q6 ∧ b ≠ q7) WZ E2 p5 lm2 o5 s5 m2 e5) → (?Gs1_6_7_R7 : Nat → Nat → Option Addr → Nat → Option Addr → Nat → World → Prop) q6 q7 p5 o5 s5 e5 WZ) ?hs1_6_7_R7 ?ks1_6_7_R7
  case' hs1_6_7_R7 => intro Ks1_6_7_R7
  case' hs1_6_7_R7 =>
   refine share (G := ∀ (q6 : Nat) (p5 : Option Addr) (o5 : Nat) (s5 : Option Addr) (e5 : Nat) (WZ : World), (Below v4.heap.size v4 WZ) → (Blk WZ q6 27 (dirC 0 none 0 0 none 0 0)) → (v4.heap.size ≤ q6) → (DM (fun b => b ≠ q6) WZ E2 p5 lm2 o5 s5 m2 e5) → (?Gs1_6_R7 : Nat → Option Addr → Nat → Option Addr → Nat → World → Prop) q6 p5 o5 s5 e5 WZ) ?hs1_6_R7 ?ks1_6_R7
  case' hs1_6_R7 => intro Ks1_6_R7
  case' hs1_6_R7 =>
   refine share (G := ∀ (q7 : Nat) (p5 : Option Addr) (o5 : Nat) (s5 : Option Addr) (e5 : Nat) (WZ : World), (Below v4.heap.size v4 WZ) → (Blk WZ q7 27 (dirC 0 none 0 0 none 0 0)) → (v4.heap.size ≤ q7) → (DM (fun b => b ≠ q7) WZ E2 p5 lm2 o5 s5 m2 e5) → (?Gs1_7_R7 : Nat → Option Addr → Nat → Option Addr → Nat → World → Prop) q7 p5 o5 s5 e5 WZ) ?hs1_7_R7 ?ks1_7_R7
  case' hs1_7_R7 => intro Ks1_7_R7
  case' hs1_7_R7 =>
   refine share (G := ∀ (p5 : Option Addr) (o5 : Nat) (s5 : Option Addr) (e5 : Nat) (WZ : World), (Below v4.heap.size v4 WZ) → (DM (fun _ => True) WZ E2 p5 lm2 o5 s5 m2 e5) → (?Gs1_R7 : Option Addr → Nat → Option Addr → Nat → World → Prop) p5 o5 s5 e5 WZ) ?hs1_R7 ?ks1_R7
  case' hs1_R7 => intro Ks1_R7
  case' hs1_R7 =>
   refine share (G := ∀ (q6 : Nat) (q7 : Nat) (WZ : World), (Below v4.heap.size v4 WZ) → (Blk WZ q6 27 (dirC 0 none 0 0 none 0 0)) → (v4.heap.size ≤ q6) → (Blk WZ q7 27 (dirC 0 none 0 0 none 0 0)) → (v4.heap.size ≤ q7) → (q6 ≠ q7) → (?Gs0_6_7_R7 : Nat → Nat → World → Prop) q6 q7 WZ) ?hs0_6_7_R7 ?ks0_6_7_R7
  case' hs0_6_7_R7 => intro Ks0_6_7_R7
  case' hs0_6_7_R7 =>
   refine share (G := ∀ (q6 : Nat) (WZ : World), (Below v4.heap.size v4 WZ) → (Blk WZ q6 27 (dirC 0 none 0 0 none 0 0)) → (v4.heap.size ≤ q6) → (?Gs0_6_R7 : Nat → World → Prop) q6 WZ) ?hs0_6_R7 ?ks0_6_R7
  case' hs0_6_R7 => intro Ks0_6_R7
  case' hs0_6_R7 =>
   refine share (G := ∀ (q7 : Nat) (WZ : World), (Below v4.heap.size v4 WZ) → (Blk WZ q7 27 (dirC 0 none 0 0 none 0 0)) → (v4.heap.size ≤ q7) → (?Gs0_7_R7 : Nat → World → Prop) q7 WZ) ?hs0_7_R7 ?ks0_7_R7
  case' hs0_7_R7 => intro Ks0_7_R7
  case hs0_7_R7 =>
   refine wp_region_held_drew (S := fun wz => Below v4.heap.size v4 wz) (by kernel_rfl) ((Below.refl _ v4).drew) (fun hHeld => ?_)
   generalize v4.drew = WZ at *
   refine wpAnyH_take (i := 0) (oi := { dst := some 78, op := Op.load 27 (Operand.tmp 15), type := 27, pos := "law.go:137", after := #[], guard := none }) (v := ?_) rfl (by kernel_rfl) (by kernel_rfl) (by kernel_rfl) (fun _ _ _ h => h) (Or.inl ⟨by rfl, ?_⟩) hHeld ?_
   rotate_left
   · intro wz hSw
     have y0' := (hBd1.out.below hSw hBd1.out.lt).at_ (i := 0) (x := .int .i64 p0) rfl
     have y1' := (hBd1.out.below hSw hBd1.out.lt).at_ (i := 1) (x := .slice la lm lc) rfl
     have y2' := (hBd1.out.below hSw hBd1.out.lt).at_ (i := 2) (x := .slice ra n rc) rfl
     go_simp
     all_goals (with_reducible rfl)
   try simp only [Act.put, sA, s0, s1]
   refine wpAnyH_take (i := 1) (oi := { dst := some 79, op := Op.move (Operand.tmp 2), type := 22, pos := "law.go:137", after := #[], guard := none }) (v := ?_) rfl (by kernel_rfl) (by kernel_rfl) (by kernel_rfl) (fun _ _ _ h => h) (Or.inl ⟨by rfl, ?_⟩) hHeld ?_
   rotate_left
   · intro wz hSw
     go_simp
     all_goals (with_reducible rfl)
   try simp only [Act.put, sA, s0, s1]
   refine wpAnyH_take (i := 3) (oi := { dst := some 81, op := Op.load 27 (Operand.tmp 15), type := 27, pos := "law.go:137", after := #[], guard := none }) (v := ?_) rfl (by kernel_rfl) (by kernel_rfl) (by kernel_rfl) (fun _ _ _ h => h) (Or.inl ⟨by rfl, ?_⟩) hHeld ?_
   rotate_left
   · intro wz hSw
     have y0' := (hBd1.out.below hSw hBd1.out.lt).at_ (i := 0) (x := .int .i64 p0) rfl
     have y1' := (hBd1.out.below hSw hBd1.out.lt).at_ (i := 1) (x := .slice la lm lc) rfl
     have y2' := (hBd1.out.below hSw hBd1.out.lt).at_ (i := 2) (x := .slice ra n rc) rfl
     go_simp
     all_goals (with_reducible rfl)
   try simp only [Act.put, sA, s0, s1]
   refine wpAnyH_take (i := 4) (oi := { dst := some 82, op := Op.move (Operand.tmp 3), type := 22, pos := "law.go:137", after := #[], guard := none }) (v := ?_) rfl (by kernel_rfl) (by kernel_rfl) (by kernel_rfl) (fun _ _ _ h => h) (Or.inl ⟨by rfl, ?_⟩) hHeld ?_
   rotate_left
   · intro wz hSw
     go_simp
     all_goals (with_reducible rfl)
   try simp only [Act.put, sA, s0, s1]
   refine wpAnyH_ready (rs := [2, 6, 7]) (by kernel_rfl) (by simp) ?_
   refine AllReadyH.cons (o := { dst := some 80, op := Op.call { callee := Callee.value (Operand.func 10), args := #[Operand.tmp 78, Operand.tmp 79], argTypes := #[27, 22] }, type := 27, pos := "law.go:137", after := #[{ on := 0, ground := Ground.data }, { on := 1, ground := Ground.data }], guard := none }) rfl (fun K hK => ?_) (AllReadyH.cons (o := { dst := some 18, op := Op.alloc 27, type := 0, pos := "law.go:137", after := #[], guard := none }) rfl (fun K hK => ?_) (AllReadyH.cons (o := { dst := some 19, op := Op.alloc 27, type := 0, pos := "law.go:137", after := #[], guard := none }) rfl (fun K hK => ?_) AllReadyH.nil))
   case refine_1 =>
    rw [if_pos (by rfl)]
    show Oper.wp _ _ _ _ K _
    go_simp
    go_at_call 10
    refine (hg2.out _ (HT'.out.below (hbw.out.trans (hHeld.mono hbw.out.size))) (hD9.out.below hHeld) (hG2.out.below (hbw.out.trans (hHeld.mono hbw.out.size)))).mono ?_
    rintro e wq ⟨p5, o5, s5, e5, rfl, hDMx, hst⟩


    refine hK.out _ _ (hHeld.trans (hst.mono hHeld.size)) (fun hHeld2 => ?_)
    clear hK K
    try simp only [Act.put, sA, s0, s1]
    exact Ks1_R7 p5 o5 s5 e5 wq (hHeld2) (hDMx.imp (fun b hb hk => by first | trivial | (have h9 := hB6.lt; have h8 := hB7.lt; have h7 := hHeld.size; omega) | (have h9 := hB6.lt; have h7 := hHeld.size; omega) | (have h8 := hB7.lt; have h7 := hHeld.size; omega)))
   case refine_2 =>
    rw [if_pos (by rfl)]
    show Oper.wp _ _ _ _ K _
    go_simp
    refine hK.out _ _ (hHeld.alloc hHeld.size _) (fun hHeld2 => ?_)
    clear hK K
    try simp only [Act.put, sA, s0, s1]
    generalize hW2 : World.alloc WZ _ = W2
    rw [hW2] at hHeld2
    generalize hq : WZ.heap.size = q6
    have hBn : Blk W2 q6 27 (dirC 0 none 0 0 none 0 0) := by rw [← hW2, ← hq]; exact Blk.new _ _ _
    have hLn := hHeld.size
    rw [hq] at hLn
    clear hW2 hq
    exact Ks0_6_R7 q6 W2 (hHeld2) (hBn) (hLn)
   case refine_3 =>
    rw [if_pos (by rfl)]
    show Oper.wp _ _ _ _ K _
    go_simp
    refine hK.out _ _ (hHeld.alloc hHeld.size _) (fun hHeld2 => ?_)
    clear hK K
    try simp only [Act.put, sA, s0, s1]
    generalize hW2 : World.alloc WZ _ = W2
    rw [hW2] at hHeld2
    generalize hq : WZ.heap.size = q7
    have hBn : Blk W2 q7 27 (dirC 0 none 0 0 none 0 0) := by rw [← hW2, ← hq]; exact Blk.new _ _ _
    have hLn := hHeld.size
    rw [hq] at hLn
    clear hW2 hq
    exact Ks0_7_R7 q7 W2 (hHeld2) (hBn) (hLn)
  case ks0_7_R7 =>
   intro q7 WZ hHeld hB7 hL7
   refine wpAnyH_ready (rs := [2, 6]) (by kernel_rfl) (by simp) ?_
   refine AllReadyH.cons (o := { dst := some 80, op := Op.call { callee := Callee.value (Operand.func 10), args := #[Operand.tmp 78, Operand.tmp 79], argTypes := #[27, 22] }, type := 27, pos := "law.go:137", after := #[{ on := 0, ground := Ground.data }, { on := 1, ground := Ground.data }], guard := none }) rfl (fun K hK => ?_) (AllReadyH.cons (o := { dst := some 18, op := Op.alloc 27, type := 0, pos := "law.go:137", after := #[], guard := none }) rfl (fun K hK => ?_) AllReadyH.nil)
   case refine_1 =>
    rw [if_pos (by rfl)]
    show Oper.wp _ _ _ _ K _
    go_simp
    go_at_call 10
    refine (hg2.out _ (HT'.out.below (hbw.out.trans (hHeld.mono hbw.out.size))) (hD9.out.below hHeld) (hG2.out.below (hbw.out.trans (hHeld.mono hbw.out.size)))).mono ?_
    rintro e wq ⟨p5, o5, s5, e5, rfl, hDMx, hst⟩


    refine hK.out _ _ (hHeld.trans (hst.mono hHeld.size)) (fun hHeld2 => ?_)
    clear hK K
    try simp only [Act.put, sA, s0, s1]
    exact Ks1_7_R7 q7 p5 o5 s5 e5 wq (hHeld2) (hB7.below hst hB7.lt) (hL7) (hDMx.imp (fun b hb hk => by first | trivial | (have h9 := hB6.lt; have h8 := hB7.lt; have h7 := hHeld.size; omega) | (have h9 := hB6.lt; have h7 := hHeld.size; omega) | (have h8 := hB7.lt; have h7 := hHeld.size; omega)))
   case refine_2 =>
    rw [if_pos (by rfl)]
    show Oper.wp _ _ _ _ K _
    go_simp
    refine hK.out _ _ (hHeld.alloc hHeld.size _) (fun hHeld2 => ?_)
    clear hK K
    try simp only [Act.put, sA, s0, s1]
    generalize hW2 : World.alloc WZ _ = W2
    rw [hW2] at hHeld2
    generalize hq : WZ.heap.size = q6
    have hBn : Blk W2 q6 27 (dirC 0 none 0 0 none 0 0) := by rw [← hW2, ← hq]; exact Blk.new _ _ _
    have hLn := hHeld.size
    rw [hq] at hLn
    have hB7' : Blk W2 q7 27 (dirC 0 none 0 0 none 0 0) := by rw [← hW2]; exact hB7.alloc _
    have hN7' := hB7.lt
    rw [hq] at hN7'
    clear hW2 hq
    exact Ks0_6_7_R7 q6 q7 W2 (hHeld2) (hBn) (hLn) (hB7') (hL7) ((by omega))
  case ks0_6_R7 =>
   intro q6 WZ hHeld hB6 hL6
   refine wpAnyH_ready (rs := [2, 7]) (by kernel_rfl) (by simp) ?_
   refine AllReadyH.cons (o := { dst := some 80, op := Op.call { callee := Callee.value (Operand.func 10), args := #[Operand.tmp 78, Operand.tmp 79], argTypes := #[27, 22] }, type := 27, pos := "law.go:137", after := #[{ on := 0, ground := Ground.data }, { on := 1, ground := Ground.data }], guard := none }) rfl (fun K hK => ?_) (AllReadyH.cons (o := { dst := some 19, op := Op.alloc 27, type := 0, pos := "law.go:137", after := #[], guard := none }) rfl (fun K hK => ?_) AllReadyH.nil)
   case refine_1 =>
    rw [if_pos (by rfl)]
    show Oper.wp _ _ _ _ K _
    go_simp
    go_at_call 10
    refine (hg2.out _ (HT'.out.below (hbw.out.trans (hHeld.mono hbw.out.size))) (hD9.out.below hHeld) (hG2.out.below (hbw.out.trans (hHeld.mono hbw.out.size)))).mono ?_
    rintro e wq ⟨p5, o5, s5, e5, rfl, hDMx, hst⟩


    refine hK.out _ _ (hHeld.trans (hst.mono hHeld.size)) (fun hHeld2 => ?_)
    clear hK K
    try simp only [Act.put, sA, s0, s1]
    exact Ks1_6_R7 q6 p5 o5 s5 e5 wq (hHeld2) (hB6.below hst hB6.lt) (hL6) (hDMx.imp (fun b hb hk => by first | trivial | (have h9 := hB6.lt; have h8 := hB7.lt; have h7 := hHeld.size; omega) | (have h9 := hB6.lt; have h7 := hHeld.size; omega) | (have h8 := hB7.lt; have h7 := hHeld.size; omega)))
   case refine_2 =>
    rw [if_pos (by rfl)]
    show Oper.wp _ _ _ _ K _
    go_simp
    refine hK.out _ _ (hHeld.alloc hHeld.size _) (fun hHeld2 => ?_)
    clear hK K
    try simp only [Act.put, sA, s0, s1]
    generalize hW2 : World.alloc WZ _ = W2
    rw [hW2] at hHeld2
    generalize hq : WZ.heap.size = q7
    have hBn : Blk W2 q7 27 (dirC 0 none 0 0 none 0 0) := by rw [← hW2, ← hq]; exact Blk.new _ _ _
    have hLn := hHeld.size
    rw [hq] at hLn
    have hB6' : Blk W2 q6 27 (dirC 0 none 0 0 none 0 0) := by rw [← hW2]; exact hB6.alloc _
    have hN6' := hB6.lt
    rw [hq] at hN6'
    clear hW2 hq
    exact Ks0_6_7_R7 q6 q7 W2 (hHeld2) (hB6') (hL6) (hBn) (hLn) ((by omega))
  case ks0_6_7_R7 =>
   intro q6 q7 WZ hHeld hB6 hL6 hB7 hL7 hN6_7
   refine wpAnyH_ready (rs := [2]) (by kernel_rfl) (by simp) ?_
   refine AllReadyH.cons (o := { dst := some 80, op := Op.call { callee := Callee.value (Operand.func 10), args := #[Operand.tmp 78, Operand.tmp 79], argTypes := #[27, 22] }, type := 27, pos := "law.go:137", after := #[{ on := 0, ground := Ground.data }, { on := 1, ground := Ground.data }], guard := none }) rfl (fun K hK => ?_) AllReadyH.nil
   rw [if_pos (by rfl)]
   show Oper.wp _ _ _ _ K _
   go_simp
   go_at_call 10
   refine (hg2.out _ (HT'.out.below (hbw.out.trans (hHeld.mono hbw.out.size))) (hD9.out.below hHeld) (hG2.out.below (hbw.out.trans (hHeld.mono hbw.out.size)))).mono ?_
   rintro e wq ⟨p5, o5, s5, e5, rfl, hDMx, hst⟩


   refine hK.out _ _ (hHeld.trans (hst.mono hHeld.size)) (fun hHeld2 => ?_)
   clear hK K
   try simp only [Act.put, sA, s0, s1]
   exact Ks1_6_7_R7 q6 q7 p5 o5 s5 e5 wq (hHeld2) (hB6.below hst hB6.lt) (hL6) (hB7.below hst hB7.lt) (hL7) (hN6_7) (hDMx.imp (fun b hb hk => by first | trivial | (have h9 := hB6.lt; have h8 := hB7.lt; have h7 := hHeld.size; omega) | (have h9 := hB6.lt; have h7 := hHeld.size; omega) | (have h8 := hB7.lt; have h7 := hHeld.size; omega)))
  case ks1_R7 =>
   intro p5 o5 s5 e5 WZ hHeld hDa
   refine wpAnyH_ready (rs := [5, 6, 7]) (by kernel_rfl) (by simp) ?_
   refine AllReadyH.cons (o := { dst := some 83, op := Op.call { callee := Callee.value (Operand.func 10), args := #[Operand.tmp 81, Operand.tmp 82], argTypes := #[27, 22] }, type := 27, pos := "law.go:137", after := #[{ on := 3, ground := Ground.data }, { on := 4, ground := Ground.data }, { on := 2, ground := Ground.chain }], guard := none }) rfl (fun K hK => ?_) (AllReadyH.cons (o := { dst := some 18, op := Op.alloc 27, type := 0, pos := "law.go:137", after := #[], guard := none }) rfl (fun K hK => ?_) (AllReadyH.cons (o := { dst := some 19, op := Op.alloc 27, type := 0, pos := "law.go:137", after := #[], guard := none }) rfl (fun K hK => ?_) AllReadyH.nil))
   case refine_1 =>
    rw [if_pos (by rfl)]
    show Oper.wp _ _ _ _ K _
    go_simp
    go_at_call 10
    refine (hg3.out _ (HT'.out.below (hbw.out.trans (hHeld.mono hbw.out.size))) (hD9.out.below hHeld) (hG3.out.below (hbw.out.trans (hHeld.mono hbw.out.size)))).mono ?_
    rintro e wq ⟨p6, o6, s6, e6, rfl, hDMx, hst⟩


    refine hK.out _ _ (hHeld.trans (hst.mono hHeld.size)) (fun hHeld2 => ?_)
    clear hK K
    try simp only [Act.put, sA, s0, s1]
    exact Ks2_R7 p5 o5 s5 e5 p6 o6 s6 e6 wq (hHeld2) (hDa.below hst) (hDMx.imp (fun b hb hk => by first | trivial | (have h9 := hB6.lt; have h8 := hB7.lt; have h7 := hHeld.size; omega) | (have h9 := hB6.lt; have h7 := hHeld.size; omega) | (have h8 := hB7.lt; have h7 := hHeld.size; omega)))
   case refine_2 =>
    rw [if_pos (by rfl)]
    show Oper.wp _ _ _ _ K _
    go_simp
    refine hK.out _ _ (hHeld.alloc hHeld.size _) (fun hHeld2 => ?_)
    clear hK K
    try simp only [Act.put, sA, s0, s1]
    generalize hW2 : World.alloc WZ _ = W2
    rw [hW2] at hHeld2
    generalize hq : WZ.heap.size = q6
    have hBn : Blk W2 q6 27 (dirC 0 none 0 0 none 0 0) := by rw [← hW2, ← hq]; exact Blk.new _ _ _
    have hLn := hHeld.size
    rw [hq] at hLn
    have hDa' : DM (fun b => b ≠ q6) W2 E2 p5 lm2 o5 s5 m2 e5 := by rw [← hW2]; exact ((hDa.imp (K' := (fun b => b ≠ q6)) (fun b hb hk => by first | omega | (simp only at hk ⊢; omega) | (show _ ≠ _; omega) | (show _ ∧ _; omega)))).below ((Below.refl _ WZ).alloc (Nat.le_refl _) _)
    clear hW2 hq
    exact Ks1_6_R7 q6 p5 o5 s5 e5 W2 (hHeld2) (hBn) (hLn) (hDa')
   case refine_3 =>
    rw [if_pos (by rfl)]
    show Oper.wp _ _ _ _ K _
    go_simp
    refine hK.out _ _ (hHeld.alloc hHeld.size _) (fun hHeld2 => ?_)
    clear hK K
    try simp only [Act.put, sA, s0, s1]
    generalize hW2 : World.alloc WZ _ = W2
    rw [hW2] at hHeld2
    generalize hq : WZ.heap.size = q7
    have hBn : Blk W2 q7 27 (dirC 0 none 0 0 none 0 0) := by rw [← hW2, ← hq]; exact Blk.new _ _ _
    have hLn := hHeld.size
    rw [hq] at hLn
    have hDa' : DM (fun b => b ≠ q7) W2 E2 p5 lm2 o5 s5 m2 e5 := by rw [← hW2]; exact ((hDa.imp (K' := (fun b => b ≠ q7)) (fun b hb hk => by first | omega | (simp only at hk ⊢; omega) | (show _ ≠ _; omega) | (show _ ∧ _; omega)))).below ((Below.refl _ WZ).alloc (Nat.le_refl _) _)
    clear hW2 hq
    exact Ks1_7_R7 q7 p5 o5 s5 e5 W2 (hHeld2) (hBn) (hLn) (hDa')
  case ks1_7_R7 =>
   intro q7 p5 o5 s5 e5 WZ hHeld hB7 hL7 hDa
   refine wpAnyH_ready (rs := [5, 6]) (by kernel_rfl) (by simp) ?_
   refine AllReadyH.cons (o := { dst := some 83, op := Op.call { callee := Callee.value (Operand.func 10), args := #[Operand.tmp 81, Operand.tmp 82], argTypes := #[27, 22] }, type := 27, pos := "law.go:137", after := #[{ on := 3, ground := Ground.data }, { on := 4, ground := Ground.data }, { on := 2, ground := Ground.chain }], guard := none }) rfl (fun K hK => ?_) (AllReadyH.cons (o := { dst := some 18, op := Op.alloc 27, type := 0, pos := "law.go:137", after := #[], guard := none }) rfl (fun K hK => ?_) AllReadyH.nil)
   case refine_1 =>
    rw [if_pos (by rfl)]
    show Oper.wp _ _ _ _ K _
    go_simp
    go_at_call 10
    refine (hg3.out _ (HT'.out.below (hbw.out.trans (hHeld.mono hbw.out.size))) (hD9.out.below hHeld) (hG3.out.below (hbw.out.trans (hHeld.mono hbw.out.size)))).mono ?_
    rintro e wq ⟨p6, o6, s6, e6, rfl, hDMx, hst⟩


    refine hK.out _ _ (hHeld.trans (hst.mono hHeld.size)) (fun hHeld2 => ?_)
    clear hK K
    try simp only [Act.put, sA, s0, s1]
    exact Ks2_7_R7 q7 p5 o5 s5 e5 p6 o6 s6 e6 wq (hHeld2) (hB7.below hst hB7.lt) (hL7) (hDa.below hst) (hDMx.imp (fun b hb hk => by first | trivial | (have h9 := hB6.lt; have h8 := hB7.lt; have h7 := hHeld.size; omega) | (have h9 := hB6.lt; have h7 := hHeld.size; omega) | (have h8 := hB7.lt; have h7 := hHeld.size; omega)))
   case refine_2 =>
    rw [if_pos (by rfl)]
    show Oper.wp _ _ _ _ K _
    go_simp
    refine hK.out _ _ (hHeld.alloc hHeld.size _) (fun hHeld2 => ?_)
    clear hK K
    try simp only [Act.put, sA, s0, s1]
    generalize hW2 : World.alloc WZ _ = W2
    rw [hW2] at hHeld2
    generalize hq : WZ.heap.size = q6
    have hBn : Blk W2 q6 27 (dirC 0 none 0 0 none 0 0) := by rw [← hW2, ← hq]; exact Blk.new _ _ _
    have hLn := hHeld.size
    rw [hq] at hLn
    have hB7' : Blk W2 q7 27 (dirC 0 none 0 0 none 0 0) := by rw [← hW2]; exact hB7.alloc _
    have hN7' := hB7.lt
    rw [hq] at hN7'
    have hDa' : DM (fun b => b ≠ q6 ∧ b ≠ q7) W2 E2 p5 lm2 o5 s5 m2 e5 := by rw [← hW2]; exact ((hDa.imp (K' := (fun b => b ≠ q6 ∧ b ≠ q7)) (fun b hb hk => by first | omega | (simp only at hk ⊢; omega) | (show _ ≠ _; omega) | (show _ ∧ _; omega)))).below ((Below.refl _ WZ).alloc (Nat.le_refl _) _)
    clear hW2 hq
    exact Ks1_6_7_R7 q6 q7 p5 o5 s5 e5 W2 (hHeld2) (hBn) (hLn) (hB7') (hL7) ((by omega)) (hDa')
  case ks1_6_R7 =>
   intro q6 p5 o5 s5 e5 WZ hHeld hB6 hL6 hDa
   refine wpAnyH_ready (rs := [5, 7]) (by kernel_rfl) (by simp) ?_
   refine AllReadyH.cons (o := { dst := some 83, op := Op.call { callee := Callee.value (Operand.func 10), args := #[Operand.tmp 81, Operand.tmp 82], argTypes := #[27, 22] }, type := 27, pos := "law.go:137", after := #[{ on := 3, ground := Ground.data }, { on := 4, ground := Ground.data }, { on := 2, ground := Ground.chain }], guard := none }) rfl (fun K hK => ?_) (AllReadyH.cons (o := { dst := some 19, op := Op.alloc 27, type := 0, pos := "law.go:137", after := #[], guard := none }) rfl (fun K hK => ?_) AllReadyH.nil)
   case refine_1 =>
    rw [if_pos (by rfl)]
    show Oper.wp _ _ _ _ K _
    go_simp
    go_at_call 10
    refine (hg3.out _ (HT'.out.below (hbw.out.trans (hHeld.mono hbw.out.size))) (hD9.out.below hHeld) (hG3.out.below (hbw.out.trans (hHeld.mono hbw.out.size)))).mono ?_
    rintro e wq ⟨p6, o6, s6, e6, rfl, hDMx, hst⟩


    refine hK.out _ _ (hHeld.trans (hst.mono hHeld.size)) (fun hHeld2 => ?_)
    clear hK K
    try simp only [Act.put, sA, s0, s1]
    exact Ks2_6_R7 q6 p5 o5 s5 e5 p6 o6 s6 e6 wq (hHeld2) (hB6.below hst hB6.lt) (hL6) (hDa.below hst) (hDMx.imp (fun b hb hk => by first | trivial | (have h9 := hB6.lt; have h8 := hB7.lt; have h7 := hHeld.size; omega) | (have h9 := hB6.lt; have h7 := hHeld.size; omega) | (have h8 := hB7.lt; have h7 := hHeld.size; omega)))
   case refine_2 =>
    rw [if_pos (by rfl)]
    show Oper.wp _ _ _ _ K _
    go_simp
    refine hK.out _ _ (hHeld.alloc hHeld.size _) (fun hHeld2 => ?_)
    clear hK K
    try simp only [Act.put, sA, s0, s1]
    generalize hW2 : World.alloc WZ _ = W2
    rw [hW2] at hHeld2
    generalize hq : WZ.heap.size = q7
    have hBn : Blk W2 q7 27 (dirC 0 none 0 0 none 0 0) := by rw [← hW2, ← hq]; exact Blk.new _ _ _
    have hLn := hHeld.size
    rw [hq] at hLn
    have hB6' : Blk W2 q6 27 (dirC 0 none 0 0 none 0 0) := by rw [← hW2]; exact hB6.alloc _
    have hN6' := hB6.lt
    rw [hq] at hN6'
    have hDa' : DM (fun b => b ≠ q6 ∧ b ≠ q7) W2 E2 p5 lm2 o5 s5 m2 e5 := by rw [← hW2]; exact ((hDa.imp (K' := (fun b => b ≠ q6 ∧ b ≠ q7)) (fun b hb hk => by first | omega | (simp only at hk ⊢; omega) | (show _ ≠ _; omega) | (show _ ∧ _; omega)))).below ((Below.refl _ WZ).alloc (Nat.le_refl _) _)
    clear hW2 hq
    exact Ks1_6_7_R7 q6 q7 p5 o5 s5 e5 W2 (hHeld2) (hB6') (hL6) (hBn) (hLn) ((by omega)) (hDa')
  case ks1_6_7_R7 =>
   intro q6 q7 p5 o5 s5 e5 WZ hHeld hB6 hL6 hB7 hL7 hN6_7 hDa
   refine wpAnyH_ready (rs := [5]) (by kernel_rfl) (by simp) ?_
   refine AllReadyH.cons (o := { dst := some 83, op := Op.call { callee := Callee.value (Operand.func 10), args := #[Operand.tmp 81, Operand.tmp 82], argTypes := #[27, 22] }, type := 27, pos := "law.go:137", after := #[{ on := 3, ground := Ground.data }, { on := 4, ground := Ground.data }, { on := 2, ground := Ground.chain }], guard := none }) rfl (fun K hK => ?_) AllReadyH.nil
   rw [if_pos (by rfl)]
   show Oper.wp _ _ _ _ K _
   go_simp
   go_at_call 10
   refine (hg3.out _ (HT'.out.below (hbw.out.trans (hHeld.mono hbw.out.size))) (hD9.out.below hHeld) (hG3.out.below (hbw.out.trans (hHeld.mono hbw.out.size)))).mono ?_
   rintro e wq ⟨p6, o6, s6, e6, rfl, hDMx, hst⟩


   refine hK.out _ _ (hHeld.trans (hst.mono hHeld.size)) (fun hHeld2 => ?_)
   clear hK K
   try simp only [Act.put, sA, s0, s1]
   exact Ks2_6_7_R7 q6 q7 p5 o5 s5 e5 p6 o6 s6 e6 wq (hHeld2) (hB6.below hst hB6.lt) (hL6) (hB7.below hst hB7.lt) (hL7) (hN6_7) (hDa.below hst) (hDMx.imp (fun b hb hk => by first | trivial | (have h9 := hB6.lt; have h8 := hB7.lt; have h7 := hHeld.size; omega) | (have h9 := hB6.lt; have h7 := hHeld.size; omega) | (have h8 := hB7.lt; have h7 := hHeld.size; omega)))
  case ks2_R7 =>
   intro p5 o5 s5 e5 p6 o6 s6 e6 WZ hHeld hDa hDb
   refine wpAnyH_ready (rs := [6, 7]) (by kernel_rfl) (by simp) ?_
   refine AllReadyH.cons (o := { dst := some 18, op := Op.alloc 27, type := 0, pos := "law.go:137", after := #[], guard := none }) rfl (fun K hK => ?_) (AllReadyH.cons (o := { dst := some 19, op := Op.alloc 27, type := 0, pos := "law.go:137", after := #[], guard := none }) rfl (fun K hK => ?_) AllReadyH.nil)
   case refine_1 =>
    rw [if_pos (by rfl)]
    show Oper.wp _ _ _ _ K _
    go_simp
    refine hK.out _ _ (hHeld.alloc hHeld.size _) (fun hHeld2 => ?_)
    clear hK K
    try simp only [Act.put, sA, s0, s1]
    generalize hW2 : World.alloc WZ _ = W2
    rw [hW2] at hHeld2
    generalize hq : WZ.heap.size = q6
    have hBn : Blk W2 q6 27 (dirC 0 none 0 0 none 0 0) := by rw [← hW2, ← hq]; exact Blk.new _ _ _
    have hLn := hHeld.size
    rw [hq] at hLn
    have hDa' : DM (fun b => b ≠ q6) W2 E2 p5 lm2 o5 s5 m2 e5 := by rw [← hW2]; exact ((hDa.imp (K' := (fun b => b ≠ q6)) (fun b hb hk => by first | omega | (simp only at hk ⊢; omega) | (show _ ≠ _; omega) | (show _ ∧ _; omega)))).below ((Below.refl _ WZ).alloc (Nat.le_refl _) _)
    have hDb' : DM (fun b => b ≠ q6) W2 E3 p6 lm3 o6 s6 m3 e6 := by rw [← hW2]; exact ((hDb.imp (K' := (fun b => b ≠ q6)) (fun b hb hk => by first | omega | (simp only at hk ⊢; omega) | (show _ ≠ _; omega) | (show _ ∧ _; omega)))).below ((Below.refl _ WZ).alloc (Nat.le_refl _) _)
    clear hW2 hq
    exact Ks2_6_R7 q6 p5 o5 s5 e5 p6 o6 s6 e6 W2 (hHeld2) (hBn) (hLn) (hDa') (hDb')
   case refine_2 =>
    rw [if_pos (by rfl)]
    show Oper.wp _ _ _ _ K _
    go_simp
    refine hK.out _ _ (hHeld.alloc hHeld.size _) (fun hHeld2 => ?_)
    clear hK K
    try simp only [Act.put, sA, s0, s1]
    generalize hW2 : World.alloc WZ _ = W2
    rw [hW2] at hHeld2
    generalize hq : WZ.heap.size = q7
    have hBn : Blk W2 q7 27 (dirC 0 none 0 0 none 0 0) := by rw [← hW2, ← hq]; exact Blk.new _ _ _
    have hLn := hHeld.size
    rw [hq] at hLn
    have hDa' : DM (fun b => b ≠ q7) W2 E2 p5 lm2 o5 s5 m2 e5 := by rw [← hW2]; exact ((hDa.imp (K' := (fun b => b ≠ q7)) (fun b hb hk => by first | omega | (simp only at hk ⊢; omega) | (show _ ≠ _; omega) | (show _ ∧ _; omega)))).below ((Below.refl _ WZ).alloc (Nat.le_refl _) _)
    have hDb' : DM (fun b => b ≠ q7) W2 E3 p6 lm3 o6 s6 m3 e6 := by rw [← hW2]; exact ((hDb.imp (K' := (fun b => b ≠ q7)) (fun b hb hk => by first | omega | (simp only at hk ⊢; omega) | (show _ ≠ _; omega) | (show _ ∧ _; omega)))).below ((Below.refl _ WZ).alloc (Nat.le_refl _) _)
    clear hW2 hq
    exact Ks2_7_R7 q7 p5 o5 s5 e5 p6 o6 s6 e6 W2 (hHeld2) (hBn) (hLn) (hDa') (hDb')
  case ks2_7_R7 =>
   intro q7 p5 o5 s5 e5 p6 o6 s6 e6 WZ hHeld hB7 hL7 hDa hDb
   refine wpAnyH_ready (rs := [6]) (by kernel_rfl) (by simp) ?_
   refine AllReadyH.cons (o := { dst := some 18, op := Op.alloc 27, type := 0, pos := "law.go:137", after := #[], guard := none }) rfl (fun K hK => ?_) AllReadyH.nil
   rw [if_pos (by rfl)]
   show Oper.wp _ _ _ _ K _
   go_simp
   refine hK.out _ _ (hHeld.alloc hHeld.size _) (fun hHeld2 => ?_)
   clear hK K
   try simp only [Act.put, sA, s0, s1]
   generalize hW2 : World.alloc WZ _ = W2
   rw [hW2] at hHeld2
   generalize hq : WZ.heap.size = q6
   have hBn : Blk W2 q6 27 (dirC 0 none 0 0 none 0 0) := by rw [← hW2, ← hq]; exact Blk.new _ _ _
   have hLn := hHeld.size
   rw [hq] at hLn
   have hB7' : Blk W2 q7 27 (dirC 0 none 0 0 none 0 0) := by rw [← hW2]; exact hB7.alloc _
   have hN7' := hB7.lt
   rw [hq] at hN7'
   have hDa' : DM (fun b => b ≠ q6 ∧ b ≠ q7) W2 E2 p5 lm2 o5 s5 m2 e5 := by rw [← hW2]; exact ((hDa.imp (K' := (fun b => b ≠ q6 ∧ b ≠ q7)) (fun b hb hk => by first | omega | (simp only at hk ⊢; omega) | (show _ ≠ _; omega) | (show _ ∧ _; omega)))).below ((Below.refl _ WZ).alloc (Nat.le_refl _) _)
   have hDb' : DM (fun b => b ≠ q6 ∧ b ≠ q7) W2 E3 p6 lm3 o6 s6 m3 e6 := by rw [← hW2]; exact ((hDb.imp (K' := (fun b => b ≠ q6 ∧ b ≠ q7)) (fun b hb hk => by first | omega | (simp only at hk ⊢; omega) | (show _ ≠ _; omega) | (show _ ∧ _; omega)))).below ((Below.refl _ WZ).alloc (Nat.le_refl _) _)
   clear hW2 hq
   exact Ks2_6_7_R7 q6 q7 p5 o5 s5 e5 p6 o6 s6 e6 W2 (hHeld2) (hBn) (hLn) (hB7') (hL7) ((by omega)) (hDa') (hDb')
  case ks2_6_R7 =>
   intro q6 p5 o5 s5 e5 p6 o6 s6 e6 WZ hHeld hB6 hL6 hDa hDb
   refine wpAnyH_ready (rs := [7]) (by kernel_rfl) (by simp) ?_
   refine AllReadyH.cons (o := { dst := some 19, op := Op.alloc 27, type := 0, pos := "law.go:137", after := #[], guard := none }) rfl (fun K hK => ?_) AllReadyH.nil
   rw [if_pos (by rfl)]
   show Oper.wp _ _ _ _ K _
   go_simp
   refine hK.out _ _ (hHeld.alloc hHeld.size _) (fun hHeld2 => ?_)
   clear hK K
   try simp only [Act.put, sA, s0, s1]
   generalize hW2 : World.alloc WZ _ = W2
   rw [hW2] at hHeld2
   generalize hq : WZ.heap.size = q7
   have hBn : Blk W2 q7 27 (dirC 0 none 0 0 none 0 0) := by rw [← hW2, ← hq]; exact Blk.new _ _ _
   have hLn := hHeld.size
   rw [hq] at hLn
   have hB6' : Blk W2 q6 27 (dirC 0 none 0 0 none 0 0) := by rw [← hW2]; exact hB6.alloc _
   have hN6' := hB6.lt
   rw [hq] at hN6'
   have hDa' : DM (fun b => b ≠ q6 ∧ b ≠ q7) W2 E2 p5 lm2 o5 s5 m2 e5 := by rw [← hW2]; exact ((hDa.imp (K' := (fun b => b ≠ q6 ∧ b ≠ q7)) (fun b hb hk => by first | omega | (simp only at hk ⊢; omega) | (show _ ≠ _; omega) | (show _ ∧ _; omega)))).below ((Below.refl _ WZ).alloc (Nat.le_refl _) _)
   have hDb' : DM (fun b => b ≠ q6 ∧ b ≠ q7) W2 E3 p6 lm3 o6 s6 m3 e6 := by rw [← hW2]; exact ((hDb.imp (K' := (fun b => b ≠ q6 ∧ b ≠ q7)) (fun b hb hk => by first | omega | (simp only at hk ⊢; omega) | (show _ ≠ _; omega) | (show _ ∧ _; omega)))).below ((Below.refl _ WZ).alloc (Nat.le_refl _) _)
   clear hW2 hq
   exact Ks2_6_7_R7 q6 q7 p5 o5 s5 e5 p6 o6 s6 e6 W2 (hHeld2) (hB6') (hL6) (hBn) (hLn) ((by omega)) (hDa') (hDb')
  case ks2_6_7_R7 =>
   intro q6 q7 p5 o5 s5 e5 p6 o6 s6 e6 WZ hHeld hB6 hL6 hB7 hL7 hN6_7 hDa hDb
   refine wpAnyH_ready (rs := [8]) (by kernel_rfl) (by simp) ?_
   refine AllReadyH.cons (o := { dst := none, op := Op.store 27 (Operand.tmp 18) (Operand.tmp 80), type := 0, pos := "law.go:137", after := #[{ on := 6, ground := Ground.data }, { on := 2, ground := Ground.data }, { on := 5, ground := Ground.chain }, { on := 0, ground := Ground.phase }, { on := 1, ground := Ground.phase }, { on := 2, ground := Ground.phase }, { on := 3, ground := Ground.textOnly Departure.lateStores }, { on := 4, ground := Ground.textOnly Departure.lateStores }, { on := 5, ground := Ground.textOnly Departure.lateStoresUnsure }, { on := 6, ground := Ground.phase }, { on := 7, ground := Ground.phase }], guard := none }) rfl (fun K hK => ?_) AllReadyH.nil
   obtain ⟨W3, hQ⟩ := put_row (ty := 27) hB6 (x := dirC p0 p5 lm2 o5 s5 m2 e5) (rfl) (sizeDr) (dr_one _ _ _ _ _ _ _)
   have hHeld2 := below_grown hHeld hQ.grown hHeld.size hL6
   rw [if_pos (by rfl)]
   refine wp_store_mid 27 _ _ rfl q6 0 (dirC p0 p5 lm2 o5 s5 m2 e5 : List Value).toArray (by rfl) (by rfl) hQ.there hQ.info (by simpa using hQ.one) ?_
   generalize hWq : World.setCells _ _ _ _ = Wa
   obtain rfl : W3 = Wa := by rw [← hWq]; exact hQ.eq
   clear hWq
   refine hK.out _ _ hHeld2 (fun _ => ?_)
   clear hK K
   try simp only [Act.put]
   exact Ks3_6_7_R7 q6 q7 p5 o5 s5 e5 p6 o6 s6 e6 W3 (hHeld2) (hQ.blk) (hL6) (hB7.grown hQ.grown (fun e => by injection e with e; exact hN6_7 e.symm)) (hL7) (hN6_7) (hDa.keep (Keeps.grown hQ.grown (fun b hb => by omega))) (hDb.keep (Keeps.grown hQ.grown (fun b hb => by omega)))
  case ks3_6_7_R7 =>
   intro q6 q7 p5 o5 s5 e5 p6 o6 s6 e6 WZ hHeld hB6 hL6 hB7 hL7 hN6_7 hDa hDb
   refine wpAnyH_ready (rs := [9]) (by kernel_rfl) (by simp) ?_
   refine AllReadyH.cons (o := { dst := none, op := Op.store 27 (Operand.tmp 19) (Operand.tmp 83), type := 0, pos := "law.go:137", after := #[{ on := 7, ground := Ground.data }, { on := 5, ground := Ground.data }, { on := 8, ground := Ground.chain }, { on := 0, ground := Ground.phase }, { on := 1, ground := Ground.phase }, { on := 2, ground := Ground.phase }, { on := 3, ground := Ground.phase }, { on := 4, ground := Ground.phase }, { on := 5, ground := Ground.phase }, { on := 6, ground := Ground.phase }, { on := 7, ground := Ground.phase }, { on := 8, ground := Ground.phase }], guard := none }) rfl (fun K hK => ?_) AllReadyH.nil
   obtain ⟨W3, hQ⟩ := put_row (ty := 27) hB7 (x := dirC p0 p6 lm3 o6 s6 m3 e6) (rfl) (sizeDr) (dr_one _ _ _ _ _ _ _)
   have hHeld2 := below_grown hHeld hQ.grown hHeld.size hL7
   rw [if_pos (by rfl)]
   refine wp_store_mid 27 _ _ rfl q7 0 (dirC p0 p6 lm3 o6 s6 m3 e6 : List Value).toArray (by rfl) (by rfl) hQ.there hQ.info (by simpa using hQ.one) ?_
   generalize hWq : World.setCells _ _ _ _ = Wa
   obtain rfl : W3 = Wa := by rw [← hWq]; exact hQ.eq
   clear hWq
   refine hK.out _ _ hHeld2 (fun _ => ?_)
   clear hK K
   try simp only [Act.put]
   refine wpAnyH_done (by kernel_rfl) ?_ _
   exact KfinR7 q6 q7 p5 o5 s5 e5 p6 o6 s6 e6 W3 (hHeld2) (hB6.grown hQ.grown (fun e => by injection e with e; exact hN6_7 e)) (hL6) (hQ.blk) (hL7) (hN6_7) (hDa.keep (Keeps.grown hQ.grown (fun b hb => by omega))) (hDb.keep (Keeps.grown hQ.grown (fun b hb => by omega)))
  case kfinR7 =>
   intro g6 g7 p5 o5 s5 e5 p6 o6 s6 e6 w7 hHeld hX6 _ hX7 _ _ hDa0 hDb0
   have hDa : Hid (DM (fun _ => True) w7 E2 p5 lm2 o5 s5 m2 e5) := hDa0.imp (fun _ _ _ => trivial)
   have hDb : Hid (DM (fun _ => True) w7 E3 p6 lm3 o6 s6 m3 e6) := hDb0.imp (fun _ _ _ => trivial)
   have hBa := Lib.hid hX6
   have hBb := Lib.hid hX7
   clear hX6 hX7 hDa0 hDb0 hg2 hg3 hD9 hBd1
   replace hBd := Lib.hid (hBd.out.below hHeld hBd.out.lt)
   replace hbw := Lib.hid (hbw.out.trans (hHeld.mono hbw.out.size))
   clear hHeld hBd
   obtain ⟨lo, hlo⟩ : ∃ m, Hid (min m2 m3 = m) := ⟨_, rfl⟩
   have hmin : min (m2 : Int) (m3 : Int) = (lo : Int) := by have := hlo.out; omega
   have y0 := hBa.out.at_ (i := 0) (x := .int .i64 p0) rfl
   have y1 := hBa.out.at_ (i := 1) (x := .slice p5 lm2 o5) rfl
   have y2 := hBa.out.at_ (i := 2) (x := .slice s5 m2 e5) rfl
   have z0 := hBb.out.at_ (i := 0) (x := .int .i64 p0) rfl
   have z1 := hBb.out.at_ (i := 1) (x := .slice p6 lm3 o6) rfl
   have z2 := hBb.out.at_ (i := 2) (x := .slice s6 m3 e6) rfl
   go_upto_region 9 with fail
   clear y0 y1 y2 z0 z1 z2 hmin
   by_cases hn0 : lo = 0
   · subst hn0
     have hend := Lib.hid (hfin.out _ hbw.out)
     clear hfin
     go_wp2_with fail
     exact hend.out
   have hnz : ((lo : Int) == 0) = false := by simp; omega
   have hnz2 : decide (lo = 0) = false := by simp; omega
   have hne1 : ((lo : Int) = 0) = False := by rw [eq_iff_iff, iff_false]; omega
   have hne2 : (lo = 0) = False := by rw [eq_iff_iff, iff_false]; omega
   obtain ⟨j, hj⟩ : ∃ j, Hid (x4 % lo = j) := ⟨_, rfl⟩
   have hjn : j < lo := by rw [← hj.out]; exact Nat.mod_lt _ (by omega)
   obtain ⟨r, hr⟩ : ∃ r, E2.rs[j]? = some r := ⟨_, List.getElem?_eq_getElem (by have := hm2.out; have := hlo.out; omega)⟩
   obtain ⟨s, hs⟩ : ∃ r, E3.rs[j]? = some r := ⟨_, List.getElem?_eq_getElem (by have := hm3.out; have := hlo.out; omega)⟩
   have hrm := Lib.hid (List.mem_of_getElem? hr); have hsm := Lib.hid (List.mem_of_getElem? hs)
   have hrs : Hid (r.no = s.no) := by show _ = _; rw [(hst2.out j r hr).1, (hst3.out j s hs).1]
   have hor := Lib.hid (hDa.out.qs.okAt hr)
   have hos := Lib.hid (hDb.out.qs.okAt hs)
   obtain ⟨b1, o1, ea1, _⟩ := hDa.out.qs.cells hr
   subst ea1
   obtain ⟨b2, o2, eb2, _⟩ := hDb.out.qs.cells hs
   subst eb2
   have hrr : Hid (∀ wz, Below w7.heap.size w7 wz → wz.rangeAt b1 (o1 + j * 67) (rC r)) := fun wz h => (hDa.out.below h).qs.at_ hr
   have hss : Hid (∀ wz, Below w7.heap.size w7 wz → wz.rangeAt b2 (o2 + j * 67) (rC s)) := fun wz h => (hDb.out.below h).qs.at_ hs
   have hri : Hid ((Tryz.prog.info? 40).map (·.size) = some (rC r).length) := by show _ = _; rw [rC_length hor.out]; exact sizeR
   have hsi : Hid ((Tryz.prog.info? 40).map (·.size) = some (rC s).length) := by show _ = _; rw [rC_length hos.out]; exact sizeR
   have hrl : Hid ((rC r).length = (rC Go.Dr.zeroR).length) := by show _ = _; rw [rC_length hor.out, rC_length okZ]
   have hsl : Hid ((rC s).length = (rC Go.Dr.zeroR).length) := by show _ = _; rw [rC_length hos.out, rC_length okZ]
   have hr1 := Lib.hid (rC_one r)
   have hs1 := Lib.hid (rC_one s)
   obtain ⟨rr, hre⟩ : ∃ z, Hid (rC r = z) := ⟨_, rfl⟩
   obtain ⟨ss, hse⟩ : ∃ z, Hid (rC s = z) := ⟨_, rfl⟩
   rw [hre.out] at hrr hri hrl hr1
   rw [hse.out] at hss hsi hsl hs1
   have hw4 : Hid (IntKind.i64.wrap (x4 : Int) = (x4 : Int)) := by show _ = _; have := i4'.out; rw [IntKind.wrap_i64]; omega
   have hwj : Hid (IntKind.i64.wrap (j : Int) = (j : Int)) := by show _ = _; have := hm2s.out; have := hlo.out; rw [IntKind.wrap_i64]; omega
   have htj : Hid (Int.tmod (x4 : Int) (lo : Int) = (j : Int)) := by show _ = _; rw [Int.tmod_eq_emod_of_nonneg (by omega), ← hj.out]; omega
   have j0 : (0 : Int) ≤ (j : Int) := by omega
   have j2 : (j : Int) < (m2 : Int) := by have := hlo.out; omega
   have j3 : (j : Int) < (m3 : Int) := by have := hlo.out; omega
   have hBa1 := hBa
   have hBb1 := hBb
   clear hr hs
   go_upto_region 11 with fail
   clear hnz hnz2
   refine share (G := ∀ (q16 : Nat) (q17 : Nat) (WZ : World), (Below w7.heap.size w7 WZ) → (Blk WZ q16 40 (rr)) → (w7.heap.size ≤ q16) → (Blk WZ q17 40 (ss)) → (w7.heap.size ≤ q17) → (q16 ≠ q17) → (?GfinR11 : Nat → Nat → World → Prop) q16 q17 WZ) ?hfinR11 ?kfinR11
   case' hfinR11 =>
    intro KfinR11
   case' hfinR11 =>
    refine share (G := ∀ (q16 : Nat) (q17 : Nat) (WZ : World), (Below w7.heap.size w7 WZ) → (Blk WZ q16 40 (rr)) → (w7.heap.size ≤ q16) → (Blk WZ q17 40 (rC Go.Dr.zeroR)) → (w7.heap.size ≤ q17) → (q16 ≠ q17) → (?Gs1_16_17_R11 : Nat → Nat → World → Prop) q16 q17 WZ) ?hs1_16_17_R11 ?ks1_16_17_R11
   case' hs1_16_17_R11 => intro Ks1_16_17_R11
   case' hs1_16_17_R11 =>
    refine share (G := ∀ (q16 : Nat) (q17 : Nat) (WZ : World), (Below w7.heap.size w7 WZ) → (Blk WZ q16 40 (rC Go.Dr.zeroR)) → (w7.heap.size ≤ q16) → (Blk WZ q17 40 (rC Go.Dr.zeroR)) → (w7.heap.size ≤ q17) → (q16 ≠ q17) → (?Gs0_16_17_R11 : Nat → Nat → World → Prop) q16 q17 WZ) ?hs0_16_17_R11 ?ks0_16_17_R11
   case' hs0_16_17_R11 => intro Ks0_16_17_R11
   case' hs0_16_17_R11 =>
    refine share (G := ∀ (q16 : Nat) (WZ : World), (Below w7.heap.size w7 WZ) → (Blk WZ q16 40 (rC Go.Dr.zeroR)) → (w7.heap.size ≤ q16) → (?Gs0_16_R11 : Nat → World → Prop) q16 WZ) ?hs0_16_R11 ?ks0_16_R11
   case' hs0_16_R11 => intro Ks0_16_R11
   case' hs0_16_R11 =>
    refine share (G := ∀ (q17 : Nat) (WZ : World), (Below w7.heap.size w7 WZ) → (Blk WZ q17 40 (rC Go.Dr.zeroR)) → (w7.heap.size ≤ q17) → (?Gs0_17_R11 : Nat → World → Prop) q17 WZ) ?hs0_17_R11 ?ks0_17_R11
   case' hs0_17_R11 => intro Ks0_17_R11
   case hs0_17_R11 =>
    refine wp_region_held_drew (S := fun wz => Below w7.heap.size w7 wz) (by kernel_rfl) ((Below.refl _ w7).drew) (fun hHeld => ?_)
    generalize w7.drew = WZ at *
    refine wpAnyH_take (i := 0) (oi := { dst := some 93, op := Op.fieldAddr 27 (Operand.tmp 18) 2, type := 0, pos := "law.go:142", after := #[], guard := none }) (v := ?_) rfl (by kernel_rfl) (by kernel_rfl) (by kernel_rfl) (fun _ _ _ h => h) (Or.inl ⟨by rfl, ?_⟩) hHeld ?_
    rotate_left
    · intro wz hSw
      go_simp
      all_goals (with_reducible rfl)
    try simp only [Act.put, sA, s0, s1]
    refine wpAnyH_take (i := 1) (oi := { dst := some 94, op := Op.load 25 (Operand.tmp 93), type := 25, pos := "law.go:142", after := #[{ on := 0, ground := Ground.data }], guard := none }) (v := ?_) rfl (by kernel_rfl) (by kernel_rfl) (by kernel_rfl) (fun _ _ _ h => h) (Or.inl ⟨by rfl, ?_⟩) hHeld ?_
    rotate_left
    · intro wz hSw
      have y2' := (hBa1.out.below hSw hBa1.out.lt).at_ (i := 2) (x := .slice (some ⟨b1, o1, none⟩) m2 e5) rfl
      go_simp
      all_goals (with_reducible rfl)
    try simp only [Act.put, sA, s0, s1]
    refine wpAnyH_take (i := 2) (oi := { dst := some 95, op := Op.move (Operand.tmp 4), type := 5, pos := "law.go:142", after := #[], guard := none }) (v := ?_) rfl (by kernel_rfl) (by kernel_rfl) (by kernel_rfl) (fun _ _ _ h => h) (Or.inl ⟨by rfl, ?_⟩) hHeld ?_
    rotate_left
    · intro wz hSw
      go_simp
      all_goals (with_reducible rfl)
    try simp only [Act.put, sA, s0, s1]
    refine wpAnyH_take (i := 3) (oi := { dst := some 96, op := Op.convert 5 3 (Operand.tmp 95), type := 3, pos := "law.go:142", after := #[{ on := 2, ground := Ground.data }], guard := none }) (v := ?_) rfl (by kernel_rfl) (by kernel_rfl) (by kernel_rfl) (fun _ _ _ h => h) (Or.inl ⟨by rfl, ?_⟩) hHeld ?_
    rotate_left
    · intro wz hSw
      have hx' := hw4.out
      go_simp
      all_goals (with_reducible rfl)
    try simp only [Act.put, sA, s0, s1]
    refine wpAnyH_take (i := 4) (oi := { dst := some 97, op := Op.move (Operand.tmp 20), type := 3, pos := "law.go:142", after := #[], guard := none }) (v := ?_) rfl (by kernel_rfl) (by kernel_rfl) (by kernel_rfl) (fun _ _ _ h => h) (Or.inl ⟨by rfl, ?_⟩) hHeld ?_
    rotate_left
    · intro wz hSw
      go_simp
      all_goals (with_reducible rfl)
    try simp only [Act.put, sA, s0, s1]
    refine wpAnyH_take (i := 5) (oi := { dst := some 98, op := Op.binOp BinOp.rem 3 (Operand.tmp 96) (Operand.tmp 97) 3, type := 3, pos := "law.go:142", after := #[{ on := 3, ground := Ground.data }, { on := 4, ground := Ground.data }], guard := none }) (v := ?_) rfl (by kernel_rfl) (by kernel_rfl) (by kernel_rfl) (fun _ _ _ h => h) (Or.inl ⟨by rfl, ?_⟩) hHeld ?_
    rotate_left
    · intro wz hSw
      have ht' := htj.out
      have h1' := hne1
      have h2' := hne2
      have hj' := hwj.out
      go_simp
      all_goals (with_reducible rfl)
    try simp only [Act.put, sA, s0, s1]
    refine wpAnyH_take (i := 6) (oi := { dst := some 99, op := Op.indexAddr 25 (Operand.tmp 94) (Operand.tmp 98), type := 0, pos := "law.go:142", after := #[{ on := 1, ground := Ground.data }, { on := 5, ground := Ground.data }], guard := none }) (v := ?_) rfl (by kernel_rfl) (by kernel_rfl) (by kernel_rfl) (fun _ _ _ h => h) (Or.inl ⟨by rfl, ?_⟩) hHeld ?_
    rotate_left
    · intro wz hSw
      have j0' := j0
      have j1' := j2
      go_simp
      all_goals (with_reducible rfl)
    try simp only [Act.put, sA, s0, s1]
    refine wpAnyH_take (i := 7) (oi := { dst := some 100, op := Op.load 40 (Operand.tmp 99), type := 40, pos := "law.go:142", after := #[{ on := 6, ground := Ground.data }], guard := none }) rfl (by kernel_rfl) (by kernel_rfl) (by kernel_rfl) (fun _ _ _ h => h) (yieldsIf_load_mid (by rfl) _ _ rfl b1 (o1 + j * 67) rfl (rr) _ (fun wz h => hrr.out wz h) Tryz.underlying40 rfl (hri.out)) hHeld ?_
    try simp only [Act.put, sA, s0, s1]
    refine wpAnyH_take (i := 8) (oi := { dst := some 101, op := Op.fieldAddr 27 (Operand.tmp 19) 2, type := 0, pos := "law.go:142", after := #[{ on := 18, ground := Ground.gcOnly Departure.lateStores }], guard := none }) (v := ?_) rfl (by kernel_rfl) (by kernel_rfl) (by kernel_rfl) (fun _ _ _ h => h) (Or.inl ⟨by rfl, ?_⟩) hHeld ?_
    rotate_left
    · intro wz hSw
      go_simp
      all_goals (with_reducible rfl)
    try simp only [Act.put, sA, s0, s1]
    refine wpAnyH_take (i := 9) (oi := { dst := some 102, op := Op.load 25 (Operand.tmp 101), type := 25, pos := "law.go:142", after := #[{ on := 8, ground := Ground.data }, { on := 18, ground := Ground.gcOnly Departure.lateStores }], guard := none }) (v := ?_) rfl (by kernel_rfl) (by kernel_rfl) (by kernel_rfl) (fun _ _ _ h => h) (Or.inl ⟨by rfl, ?_⟩) hHeld ?_
    rotate_left
    · intro wz hSw
      have z2' := (hBb1.out.below hSw hBb1.out.lt).at_ (i := 2) (x := .slice (some ⟨b2, o2, none⟩) m3 e6) rfl
      go_simp
      all_goals (with_reducible rfl)
    try simp only [Act.put, sA, s0, s1]
    refine wpAnyH_take (i := 10) (oi := { dst := some 103, op := Op.move (Operand.tmp 4), type := 5, pos := "law.go:142", after := #[{ on := 18, ground := Ground.gcOnly Departure.lateStores }], guard := none }) (v := ?_) rfl (by kernel_rfl) (by kernel_rfl) (by kernel_rfl) (fun _ _ _ h => h) (Or.inl ⟨by rfl, ?_⟩) hHeld ?_
    rotate_left
    · intro wz hSw
      go_simp
      all_goals (with_reducible rfl)
    try simp only [Act.put, sA, s0, s1]
    refine wpAnyH_take (i := 11) (oi := { dst := some 104, op := Op.convert 5 3 (Operand.tmp 103), type := 3, pos := "law.go:142", after := #[{ on := 10, ground := Ground.data }, { on := 18, ground := Ground.gcOnly Departure.lateStores }], guard := none }) (v := ?_) rfl (by kernel_rfl) (by kernel_rfl) (by kernel_rfl) (fun _ _ _ h => h) (Or.inl ⟨by rfl, ?_⟩) hHeld ?_
    rotate_left
    · intro wz hSw
      have hx' := hw4.out
      go_simp
      all_goals (with_reducible rfl)
    try simp only [Act.put, sA, s0, s1]
    refine wpAnyH_take (i := 12) (oi := { dst := some 105, op := Op.move (Operand.tmp 20), type := 3, pos := "law.go:142", after := #[{ on := 18, ground := Ground.gcOnly Departure.lateStores }], guard := none }) (v := ?_) rfl (by kernel_rfl) (by kernel_rfl) (by kernel_rfl) (fun _ _ _ h => h) (Or.inl ⟨by rfl, ?_⟩) hHeld ?_
    rotate_left
    · intro wz hSw
      go_simp
      all_goals (with_reducible rfl)
    try simp only [Act.put, sA, s0, s1]
    refine wpAnyH_take (i := 13) (oi := { dst := some 106, op := Op.binOp BinOp.rem 3 (Operand.tmp 104) (Operand.tmp 105) 3, type := 3, pos := "law.go:142", after := #[{ on := 11, ground := Ground.data }, { on := 12, ground := Ground.data }, { on := 18, ground := Ground.gcOnly Departure.lateStores }], guard := none }) (v := ?_) rfl (by kernel_rfl) (by kernel_rfl) (by kernel_rfl) (fun _ _ _ h => h) (Or.inl ⟨by rfl, ?_⟩) hHeld ?_
    rotate_left
    · intro wz hSw
      have ht' := htj.out
      have h1' := hne1
      have h2' := hne2
      have hj' := hwj.out
      go_simp
      all_goals (with_reducible rfl)
    try simp only [Act.put, sA, s0, s1]
    refine wpAnyH_take (i := 14) (oi := { dst := some 107, op := Op.indexAddr 25 (Operand.tmp 102) (Operand.tmp 106), type := 0, pos := "law.go:142", after := #[{ on := 9, ground := Ground.data }, { on := 13, ground := Ground.data }, { on := 18, ground := Ground.gcOnly Departure.lateStores }], guard := none }) (v := ?_) rfl (by kernel_rfl) (by kernel_rfl) (by kernel_rfl) (fun _ _ _ h => h) (Or.inl ⟨by rfl, ?_⟩) hHeld ?_
    rotate_left
    · intro wz hSw
      have j0' := j0
      have j1' := j3
      go_simp
      all_goals (with_reducible rfl)
    try simp only [Act.put, sA, s0, s1]
    refine wpAnyH_take (i := 15) (oi := { dst := some 108, op := Op.load 40 (Operand.tmp 107), type := 40, pos := "law.go:142", after := #[{ on := 14, ground := Ground.data }, { on := 18, ground := Ground.gcOnly Departure.lateStores }], guard := none }) rfl (by kernel_rfl) (by kernel_rfl) (by kernel_rfl) (fun _ _ _ h => h) (yieldsIf_load_mid (by rfl) _ _ rfl b2 (o2 + j * 67) rfl (ss) _ (fun wz h => hss.out wz h) Tryz.underlying40 rfl (hsi.out)) hHeld ?_
    try simp only [Act.put, sA, s0, s1]
    refine wpAnyH_ready (rs := [16, 17]) (by kernel_rfl) (by simp) ?_
    refine AllReadyH.cons (o := { dst := some 21, op := Op.alloc 40, type := 0, pos := "law.go:142", after := #[], guard := none }) rfl (fun K hK => ?_) (AllReadyH.cons (o := { dst := some 22, op := Op.alloc 40, type := 0, pos := "law.go:142", after := #[], guard := none }) rfl (fun K hK => ?_) AllReadyH.nil)
    case refine_1 =>
     rw [if_pos (by rfl)]
     show Oper.wp _ _ _ _ K _
     go_simp
     refine hK.out _ _ (hHeld.alloc hHeld.size _) (fun hHeld2 => ?_)
     clear hK K
     try simp only [Act.put, sA, s0, s1]
     generalize hW2 : World.alloc WZ _ = W2
     rw [hW2] at hHeld2
     generalize hq : WZ.heap.size = q16
     have hBn : Blk W2 q16 40 (rC Go.Dr.zeroR) := by rw [← hW2, ← hq]; exact Blk.new _ _ _
     have hLn := hHeld.size
     rw [hq] at hLn
     clear hW2 hq
     exact Ks0_16_R11 q16 W2 (hHeld2) (hBn) (hLn)
    case refine_2 =>
     rw [if_pos (by rfl)]
     show Oper.wp _ _ _ _ K _
     go_simp
     refine hK.out _ _ (hHeld.alloc hHeld.size _) (fun hHeld2 => ?_)
     clear hK K
     try simp only [Act.put, sA, s0, s1]
     generalize hW2 : World.alloc WZ _ = W2
     rw [hW2] at hHeld2
     generalize hq : WZ.heap.size = q17
     have hBn : Blk W2 q17 40 (rC Go.Dr.zeroR) := by rw [← hW2, ← hq]; exact Blk.new _ _ _
     have hLn := hHeld.size
     rw [hq] at hLn
     clear hW2 hq
     exact Ks0_17_R11 q17 W2 (hHeld2) (hBn) (hLn)
   case ks0_17_R11 =>
    intro q17 WZ hHeld hB17 hL17
    refine wpAnyH_ready (rs := [16]) (by kernel_rfl) (by simp) ?_
    refine AllReadyH.cons (o := { dst := some 21, op := Op.alloc 40, type := 0, pos := "law.go:142", after := #[], guard := none }) rfl (fun K hK => ?_) AllReadyH.nil
    rw [if_pos (by rfl)]
    show Oper.wp _ _ _ _ K _
    go_simp
    refine hK.out _ _ (hHeld.alloc hHeld.size _) (fun hHeld2 => ?_)
    clear hK K
    try simp only [Act.put, sA, s0, s1]
    generalize hW2 : World.alloc WZ _ = W2
    rw [hW2] at hHeld2
    generalize hq : WZ.heap.size = q16
    have hBn : Blk W2 q16 40 (rC Go.Dr.zeroR) := by rw [← hW2, ← hq]; exact Blk.new _ _ _
    have hLn := hHeld.size
    rw [hq] at hLn
    have hB17' : Blk W2 q17 40 (rC Go.Dr.zeroR) := by rw [← hW2]; exact hB17.alloc _
    have hN17' := hB17.lt
    rw [hq] at hN17'
    clear hW2 hq
    exact Ks0_16_17_R11 q16 q17 W2 (hHeld2) (hBn) (hLn) (hB17') (hL17) ((by omega))
   case ks0_16_R11 =>
    intro q16 WZ hHeld hB16 hL16
    refine wpAnyH_ready (rs := [17]) (by kernel_rfl) (by simp) ?_
    refine AllReadyH.cons (o := { dst := some 22, op := Op.alloc 40, type := 0, pos := "law.go:142", after := #[], guard := none }) rfl (fun K hK => ?_) AllReadyH.nil
    rw [if_pos (by rfl)]
    show Oper.wp _ _ _ _ K _
    go_simp
    refine hK.out _ _ (hHeld.alloc hHeld.size _) (fun hHeld2 => ?_)
    clear hK K
    try simp only [Act.put, sA, s0, s1]
    generalize hW2 : World.alloc WZ _ = W2
    rw [hW2] at hHeld2
    generalize hq : WZ.heap.size = q17
    have hBn : Blk W2 q17 40 (rC Go.Dr.zeroR) := by rw [← hW2, ← hq]; exact Blk.new _ _ _
    have hLn := hHeld.size
    rw [hq] at hLn
    have hB16' : Blk W2 q16 40 (rC Go.Dr.zeroR) := by rw [← hW2]; exact hB16.alloc _
    have hN16' := hB16.lt
    rw [hq] at hN16'
    clear hW2 hq
    exact Ks0_16_17_R11 q16 q17 W2 (hHeld2) (hB16') (hL16) (hBn) (hLn) ((by omega))
   case ks0_16_17_R11 =>
    intro q16 q17 WZ hHeld hB16 hL16 hB17 hL17 hN16_17
    refine wpAnyH_ready (rs := [18]) (by kernel_rfl) (by simp) ?_
    refine AllReadyH.cons (o := { dst := none, op := Op.store 40 (Operand.tmp 21) (Operand.tmp 100), type := 0, pos := "law.go:142", after := #[{ on := 16, ground := Ground.data }, { on := 7, ground := Ground.data }, { on := 0, ground := Ground.phase }, { on := 1, ground := Ground.phase }, { on := 2, ground := Ground.phase }, { on := 3, ground := Ground.phase }, { on := 4, ground := Ground.phase }, { on := 5, ground := Ground.phase }, { on := 6, ground := Ground.phase }, { on := 7, ground := Ground.phase }, { on := 8, ground := Ground.textOnly Departure.lateStores }, { on := 9, ground := Ground.textOnly Departure.lateStores }, { on := 10, ground := Ground.textOnly Departure.lateStores }, { on := 11, ground := Ground.textOnly Departure.lateStores }, { on := 12, ground := Ground.textOnly Departure.lateStores }, { on := 13, ground := Ground.textOnly Departure.lateStores }, { on := 14, ground := Ground.textOnly Departure.lateStores }, { on := 15, ground := Ground.textOnly Departure.lateStores }, { on := 16, ground := Ground.phase }, { on := 17, ground := Ground.phase }], guard := none }) rfl (fun K hK => ?_) AllReadyH.nil
    obtain ⟨W3, hQ⟩ := put_row (ty := 40) hB16 (x := rr) (hrl.out) (hri.out) (hr1.out)
    have hHeld2 := below_grown hHeld hQ.grown hHeld.size hL16
    rw [if_pos (by rfl)]
    refine wp_store_mid 40 _ _ rfl q16 0 (rr : List Value).toArray (by rfl) (by rfl) hQ.there hQ.info (by simpa using hQ.one) ?_
    generalize hWq : World.setCells _ _ _ _ = Wa
    obtain rfl : W3 = Wa := by rw [← hWq]; exact hQ.eq
    clear hWq
    refine hK.out _ _ hHeld2 (fun _ => ?_)
    clear hK K
    try simp only [Act.put]
    exact Ks1_16_17_R11 q16 q17 W3 (hHeld2) (hQ.blk) (hL16) (hB17.grown hQ.grown (fun e => by injection e with e; exact hN16_17 e.symm)) (hL17) (hN16_17)
   case ks1_16_17_R11 =>
    intro q16 q17 WZ hHeld hB16 hL16 hB17 hL17 hN16_17
    refine wpAnyH_ready (rs := [19]) (by kernel_rfl) (by simp) ?_
    refine AllReadyH.cons (o := { dst := none, op := Op.store 40 (Operand.tmp 22) (Operand.tmp 108), type := 0, pos := "law.go:142", after := #[{ on := 17, ground := Ground.data }, { on := 15, ground := Ground.data }, { on := 18, ground := Ground.chain }, { on := 0, ground := Ground.phase }, { on := 1, ground := Ground.phase }, { on := 2, ground := Ground.phase }, { on := 3, ground := Ground.phase }, { on := 4, ground := Ground.phase }, { on := 5, ground := Ground.phase }, { on := 6, ground := Ground.phase }, { on := 7, ground := Ground.phase }, { on := 8, ground := Ground.phase }, { on := 9, ground := Ground.phase }, { on := 10, ground := Ground.phase }, { on := 11, ground := Ground.phase }, { on := 12, ground := Ground.phase }, { on := 13, ground := Ground.phase }, { on := 14, ground := Ground.phase }, { on := 15, ground := Ground.phase }, { on := 16, ground := Ground.phase }, { on := 17, ground := Ground.phase }, { on := 18, ground := Ground.phase }], guard := none }) rfl (fun K hK => ?_) AllReadyH.nil
    obtain ⟨W3, hQ⟩ := put_row (ty := 40) hB17 (x := ss) (hsl.out) (hsi.out) (hs1.out)
    have hHeld2 := below_grown hHeld hQ.grown hHeld.size hL17
    rw [if_pos (by rfl)]
    refine wp_store_mid 40 _ _ rfl q17 0 (ss : List Value).toArray (by rfl) (by rfl) hQ.there hQ.info (by simpa using hQ.one) ?_
    generalize hWq : World.setCells _ _ _ _ = Wa
    obtain rfl : W3 = Wa := by rw [← hWq]; exact hQ.eq
    clear hWq
    refine hK.out _ _ hHeld2 (fun _ => ?_)
    clear hK K
    try simp only [Act.put]
    refine wpAnyH_done (by kernel_rfl) ?_ _
    exact KfinR11 q16 q17 W3 (hHeld2) (hB16.grown hQ.grown (fun e => by injection e with e; exact hN16_17 e)) (hL16) (hQ.blk) (hL17) (hN16_17)
   case kfinR11 =>
    intro g16 g17 w8 hHeld hX16 _ hX17 _ _
    have hBr := Lib.hid hX16
    have hBs := Lib.hid hX17
    clear hX16 hX17 hBa1 hBb1
    replace hDa := Lib.hid (hDa.out.below hHeld)
    replace hDb := Lib.hid (hDb.out.below hHeld)
    replace hBa := Lib.hid (hBa.out.below hHeld hBa.out.lt)
    replace hBb := Lib.hid (hBb.out.below hHeld hBb.out.lt)
    replace hbw := Lib.hid (hbw.out.trans (hHeld.mono hbw.out.size))
    clear hHeld hrr hss hw4 hwj htj
    obtain ⟨V1, e1, T1, _, _⟩ := Go.Dr.seen_all hst2.out bl5 Go.Dr.seen_new
    obtain ⟨U1, e2, T2, _, _⟩ := Go.Dr.seen_all hst3.out bl6 Go.Dr.seen_new
    have hq1 := Lib.hid (fun (W : World) hT h1 h2 => seen_any (fun _ => True) pub hpi.out E2.rs (some ⟨b1, o1, none⟩) m2 e5 a5 n5 c5 bl5 W hT h1 h2)
    have hq2 := Lib.hid (fun (W : World) hT h1 h2 => seen_any (fun _ => True) pub hpi.out E3.rs (some ⟨b2, o2, none⟩) m3 e6 a6 n6 c6 bl6 W hT h1 h2)
    unfold SeenPost at hq1 hq2
    rw [e1] at hq1
    rw [e2] at hq2
    simp only at hq1 hq2
    obtain ⟨V2, f1, R1, hrV, _⟩ := Go.Dr.seen_step hst2.out T1 hrm.out
    obtain ⟨U2, f2, R2, hsU, _⟩ := Go.Dr.seen_step hst3.out T2 hsm.out
    obtain ⟨mv, hmv⟩ : ∃ m, Hid (V2.rs.length = m) := ⟨_, rfl⟩
    obtain ⟨mu, hmu⟩ : ∃ m, Hid (U2.rs.length = m) := ⟨_, rfl⟩
    have f1' := Lib.hid f1; have f2' := Lib.hid f2; have R1' := Lib.hid R1; have R2' := Lib.hid R2; have hrV' := Lib.hid hrV; have hsU' := Lib.hid hsU
    clear e1 e2 T1 T2 f1 f2 R1 R2 hrV hsU
    have y0 := hBa.out.at_ (i := 0) (x := .int .i64 p0) rfl
    have y1 := hBa.out.at_ (i := 1) (x := .slice p5 lm2 o5) rfl
    have y2 := hBa.out.at_ (i := 2) (x := .slice (some ⟨b1, o1, none⟩) m2 e5) rfl
    go_wp2_with fail
    clear y0 y1 y2
    refine (hq1.out _ (HT'.out.below hbw.out) hDa.out.qs (hB5.out.below hbw.out)).mono ?_
    rintro e w9 ⟨b9, n9, c9, rfl, hW0, hst⟩
    replace hDa := Lib.hid (hDa.out.below hst)
    replace hDb := Lib.hid (hDb.out.below hst)
    replace hBa := Lib.hid (hBa.out.below hst hBa.out.lt)
    replace hBb := Lib.hid (hBb.out.below hst hBb.out.lt)
    replace hBr := Lib.hid (hBr.out.below hst hBr.out.lt)
    replace hBs := Lib.hid (hBs.out.below hst hBs.out.lt)
    replace hbw := Lib.hid (hbw.out.trans (hst.mono hbw.out.size))
    have hWv := Lib.hid hW0
    clear hst hq1 hW0
    obtain ⟨v9, hP⟩ : ∃ V, Hid (PutR 32 (w9.alloc (.cells (wtC 0 none 0 0 : List Value).toArray 32)) V w9.heap.size 32 (wtC V1.pub b9 n9 c9)) := put_row (Blk.new w9 32 (wtC 0 none 0 0)) rfl (sizeWt) (wt_one _ _ _ _)
    have hst := below_grown ((Below.refl _ w9).alloc (Nat.le_refl _) _) hP.out.grown (by simp) (Nat.le_refl _)
    replace hDa := Lib.hid (hDa.out.below hst)
    replace hDb := Lib.hid (hDb.out.below hst)
    replace hBa := Lib.hid (hBa.out.below hst hBa.out.lt)
    replace hBb := Lib.hid (hBb.out.below hst hBb.out.lt)
    replace hBr := Lib.hid (hBr.out.below hst hBr.out.lt)
    replace hBs := Lib.hid (hBs.out.below hst hBs.out.lt)
    replace hWv := Lib.hid (hWv.out.below hst)
    replace hbw := Lib.hid (hbw.out.trans (hst.mono hbw.out.size))
    clear hst
    have hBv := Lib.hid hP.out.blk
    go_upto_region 13 with (first
     | (refine wpList_store_mid (by rfl) 32 (.tmp 23) (.tmp 115) (by rfl) w9.heap.size 0 (wtC V1.pub b9 n9 c9).toArray (by rfl) (by rfl) hP.out.there hP.out.info (by simpa using hP.out.one) ?_
        generalize hWq : World.setCells _ _ _ _ = Wa
        obtain rfl : v9 = Wa := by rw [← hWq]; exact hP.out.eq
        clear hWq))
    clear hP
    have z0 := hBb.out.at_ (i := 0) (x := .int .i64 p0) rfl
    have z1 := hBb.out.at_ (i := 1) (x := .slice p6 lm3 o6) rfl
    have z2 := hBb.out.at_ (i := 2) (x := .slice (some ⟨b2, o2, none⟩) m3 e6) rfl
    go_wp2_with fail
    clear z0 z1 z2
    refine (hq2.out _ (HT'.out.below hbw.out) hDb.out.qs (hB6.out.below hbw.out)).mono ?_
    rintro e w10 ⟨b10, n10, c10, rfl, hW0, hst⟩
    replace hDa := Lib.hid (hDa.out.below hst)
    replace hDb := Lib.hid (hDb.out.below hst)
    replace hBa := Lib.hid (hBa.out.below hst hBa.out.lt)
    replace hBb := Lib.hid (hBb.out.below hst hBb.out.lt)
    replace hBr := Lib.hid (hBr.out.below hst hBr.out.lt)
    replace hBs := Lib.hid (hBs.out.below hst hBs.out.lt)
    replace hWv := Lib.hid (hWv.out.below hst)
    replace hBv := Lib.hid (hBv.out.below hst hBv.out.lt)
    replace hbw := Lib.hid (hbw.out.trans (hst.mono hbw.out.size))
    have hWu := Lib.hid hW0
    clear hst hq2 hW0
    obtain ⟨v10, hP⟩ : ∃ V, Hid (PutR 32 (w10.alloc (.cells (wtC 0 none 0 0 : List Value).toArray 32)) V w10.heap.size 32 (wtC U1.pub b10 n10 c10)) := put_row (Blk.new w10 32 (wtC 0 none 0 0)) rfl (sizeWt) (wt_one _ _ _ _)
    have hst := below_grown ((Below.refl _ w10).alloc (Nat.le_refl _) _) hP.out.grown (by simp) (Nat.le_refl _)
    replace hDa := Lib.hid (hDa.out.below hst)
    replace hDb := Lib.hid (hDb.out.below hst)
    replace hBa := Lib.hid (hBa.out.below hst hBa.out.lt)
    replace hBb := Lib.hid (hBb.out.below hst hBb.out.lt)
    replace hBr := Lib.hid (hBr.out.below hst hBr.out.lt)
    replace hBs := Lib.hid (hBs.out.below hst hBs.out.lt)
    replace hWv := Lib.hid (hWv.out.below hst)
    replace hBv := Lib.hid (hBv.out.below hst hBv.out.lt)
    replace hWu := Lib.hid (hWu.out.below hst)
    replace hbw := Lib.hid (hbw.out.trans (hst.mono hbw.out.size))
    clear hst
    have hBu := Lib.hid hP.out.blk
    go_upto_region 14 with (first
     | (refine wpList_store_mid (by rfl) 32 (.tmp 25) (.tmp 123) (by rfl) w10.heap.size 0 (wtC U1.pub b10 n10 c10).toArray (by rfl) (by rfl) hP.out.there hP.out.info (by simpa using hP.out.one) ?_
        generalize hWq : World.setCells _ _ _ _ = Wa
        obtain rfl : v10 = Wa := by rw [← hWq]; exact hP.out.eq
        clear hWq))
    clear hP
    have x0 := hBv.out.at_ (i := 0) (x := .int .i64 V1.pub) rfl
    have x1 := hBv.out.at_ (i := 1) (x := .slice b9 n9 c9) rfl
    have hrg := Lib.hid hBr.out.range
    go_wp2_with (first
     | (refine wpList_load_mid (by rfl) 40 (.tmp 21) (by rfl) g16 0 (by rfl) rr _ hrg.out Tryz.underlying40 (by rfl) hri.out ?_))
    clear hrg x0 x1
    have hac := Lib.hid (fun (W : World) hT hM => accept_at (K := fun _ => True) f1'.out hmv.out hor.out hre.out (a := b9) (n := n9) (c := c9) (w := W) hT hM)
    rw [hzS.out] at hac
    refine (hac.out _ (HT'.out.below hbw.out) hWv.out).mono ?_
    rintro e w11 ⟨b11, c11, rfl, hW0, hst⟩
    replace hDa := Lib.hid (hDa.out.below hst)
    replace hDb := Lib.hid (hDb.out.below hst)
    replace hBa := Lib.hid (hBa.out.below hst hBa.out.lt)
    replace hBb := Lib.hid (hBb.out.below hst hBb.out.lt)
    replace hBr := Lib.hid (hBr.out.below hst hBr.out.lt)
    replace hBs := Lib.hid (hBs.out.below hst hBs.out.lt)
    replace hWv := Lib.hid (hWv.out.below hst)
    replace hBv := Lib.hid (hBv.out.below hst hBv.out.lt)
    replace hWu := Lib.hid (hWu.out.below hst)
    replace hBu := Lib.hid (hBu.out.below hst hBu.out.lt)
    replace hbw := Lib.hid (hbw.out.trans (hst.mono hbw.out.size))
    have hWv2 : Hid (WM (fun _ => True) w11 V2 b11 mv c11) := hW0.imp (fun _ _ _ => trivial)
    clear hst hW0 hac
    have al : Below w11.heap.size w11 ((w11.alloc (.cells (wtC 0 none 0 0).toArray 32)).alloc (.cells (spC Go.Dr.zeroS).toArray 42)) := ((Below.refl _ w11).alloc (Nat.le_refl _) _).alloc (by simp) _
    have ba := (Blk.new w11 32 (wtC 0 none 0 0)).alloc (.cells (spC Go.Dr.zeroS).toArray 42)
    have bb := Blk.new (w11.alloc (.cells (wtC 0 none 0 0).toArray 32)) 42 (spC Go.Dr.zeroS)
    rw [World.size_alloc] at bb
    obtain ⟨v11a, hPa⟩ : ∃ Vq, Hid (PutR 32 ((w11.alloc (.cells (wtC 0 none 0 0).toArray 32)).alloc (.cells (spC Go.Dr.zeroS).toArray 42)) Vq w11.heap.size 32 (wtC V2.pub b11 mv c11)) := put_row ba rfl sizeWt (wt_one _ _ _ _)
    obtain ⟨v11, hPb⟩ : ∃ Vq, Hid (PutR 42 v11a Vq (w11.heap.size + 1) 42 zS) := put_row (bb.grown hPa.out.grown (by intro e; injection e; omega)) hzl.out hzo.out hz1.out
    have hst := below_grown (below_grown al hPa.out.grown al.size (Nat.le_refl _)) hPb.out.grown (Nat.le_trans al.size hPa.out.grown.size) (Nat.le_succ _)
    have hBv2 := Lib.hid (hPa.out.blk.grown hPb.out.grown (by intro e; injection e; omega))
    have hBt1 := Lib.hid hPb.out.blk
    replace hDa := Lib.hid (hDa.out.below hst)
    replace hDb := Lib.hid (hDb.out.below hst)
    replace hBa := Lib.hid (hBa.out.below hst hBa.out.lt)
    replace hBb := Lib.hid (hBb.out.below hst hBb.out.lt)
    replace hBr := Lib.hid (hBr.out.below hst hBr.out.lt)
    replace hBs := Lib.hid (hBs.out.below hst hBs.out.lt)
    replace hWv := Lib.hid (hWv.out.below hst)
    replace hBv := Lib.hid (hBv.out.below hst hBv.out.lt)
    replace hWu := Lib.hid (hWu.out.below hst)
    replace hBu := Lib.hid (hBu.out.below hst hBu.out.lt)
    replace hWv2 := Lib.hid (hWv2.out.below hst)
    replace hbw := Lib.hid (hbw.out.trans (hst.mono hbw.out.size))
    clear hst al ba bb
    obtain ⟨sw11, hsw11⟩ : ∃ b, Hid (w11.heap.size = b) := ⟨_, rfl⟩
    rw [hsw11.out] at hBv2
    go_upto_region 15 with (first
     | (refine wpList_store_mid (by rfl) 32 (.tmp 27) (.tmp 129) (by rfl) w11.heap.size 0 (wtC V2.pub b11 mv c11).toArray (by rfl) (by rfl) hPa.out.there hPa.out.info (by simpa using hPa.out.one) ?_
        generalize hWq : World.setCells _ _ _ _ = Wa
        obtain rfl : v11a = Wa := by rw [← hWq]; exact hPa.out.eq
        clear hWq)
         | (refine wpList_store_mid (by rfl) 42 (.tmp 28) (.tmp 130) (by rfl) (w11.heap.size + 1) 0 (zS).toArray (by rfl) (by rfl) hPb.out.there hPb.out.info (by simpa using hPb.out.one) ?_
            generalize hWq : World.setCells _ _ _ _ = Wa
            obtain rfl : v11 = Wa := by rw [← hWq]; exact hPb.out.eq
            clear hWq))
    clear hPa hPb
    rw [hsw11.out]
    have x0 := hBu.out.at_ (i := 0) (x := .int .i64 U1.pub) rfl
    have x1 := hBu.out.at_ (i := 1) (x := .slice b10 n10 c10) rfl
    have hrg := Lib.hid hBs.out.range
    go_wp2_with (first
     | (refine wpList_load_mid (by rfl) 40 (.tmp 22) (by rfl) g17 0 (by rfl) ss _ hrg.out Tryz.underlying40 (by rfl) hsi.out ?_))
    clear hrg x0 x1
    have hac := Lib.hid (fun (W : World) hT hM => accept_at (K := fun _ => True) f2'.out hmu.out hos.out hse.out (a := b10) (n := n10) (c := c10) (w := W) hT hM)
    rw [hzS.out] at hac
    refine (hac.out _ (HT'.out.below hbw.out) hWu.out).mono ?_
    rintro e w12 ⟨b12, c12, rfl, hW0, hst⟩
    replace hDa := Lib.hid (hDa.out.below hst)
    replace hDb := Lib.hid (hDb.out.below hst)
    replace hBa := Lib.hid (hBa.out.below hst hBa.out.lt)
    replace hBb := Lib.hid (hBb.out.below hst hBb.out.lt)
    replace hBr := Lib.hid (hBr.out.below hst hBr.out.lt)
    replace hBs := Lib.hid (hBs.out.below hst hBs.out.lt)
    replace hWv := Lib.hid (hWv.out.below hst)
    replace hBv := Lib.hid (hBv.out.below hst hBv.out.lt)
    replace hWu := Lib.hid (hWu.out.below hst)
    replace hBu := Lib.hid (hBu.out.below hst hBu.out.lt)
    replace hWv2 := Lib.hid (hWv2.out.below hst)
    replace hBv2 := Lib.hid (hBv2.out.below hst hBv2.out.lt)
    replace hBt1 := Lib.hid (hBt1.out.below hst hBt1.out.lt)
    replace hbw := Lib.hid (hbw.out.trans (hst.mono hbw.out.size))
    have hWu2 : Hid (WM (fun _ => True) w12 U2 b12 mu c12) := hW0.imp (fun _ _ _ => trivial)
    clear hst hW0 hac
    have al : Below w12.heap.size w12 ((w12.alloc (.cells (wtC 0 none 0 0).toArray 32)).alloc (.cells (spC Go.Dr.zeroS).toArray 42)) := ((Below.refl _ w12).alloc (Nat.le_refl _) _).alloc (by simp) _
    have ba := (Blk.new w12 32 (wtC 0 none 0 0)).alloc (.cells (spC Go.Dr.zeroS).toArray 42)
    have bb := Blk.new (w12.alloc (.cells (wtC 0 none 0 0).toArray 32)) 42 (spC Go.Dr.zeroS)
    rw [World.size_alloc] at bb
    obtain ⟨v12a, hPa⟩ : ∃ Vq, Hid (PutR 32 ((w12.alloc (.cells (wtC 0 none 0 0).toArray 32)).alloc (.cells (spC Go.Dr.zeroS).toArray 42)) Vq w12.heap.size 32 (wtC U2.pub b12 mu c12)) := put_row ba rfl sizeWt (wt_one _ _ _ _)
    obtain ⟨v12, hPb⟩ : ∃ Vq, Hid (PutR 42 v12a Vq (w12.heap.size + 1) 42 zS) := put_row (bb.grown hPa.out.grown (by intro e; injection e; omega)) hzl.out hzo.out hz1.out
    have hst := below_grown (below_grown al hPa.out.grown al.size (Nat.le_refl _)) hPb.out.grown (Nat.le_trans al.size hPa.out.grown.size) (Nat.le_succ _)
    have hBu2 := Lib.hid (hPa.out.blk.grown hPb.out.grown (by intro e; injection e; omega))
    have hBt2 := Lib.hid hPb.out.blk
    replace hDa := Lib.hid (hDa.out.below hst)
    replace hDb := Lib.hid (hDb.out.below hst)
    replace hBa := Lib.hid (hBa.out.below hst hBa.out.lt)
    replace hBb := Lib.hid (hBb.out.below hst hBb.out.lt)
    replace hBr := Lib.hid (hBr.out.below hst hBr.out.lt)
    replace hBs := Lib.hid (hBs.out.below hst hBs.out.lt)
    replace hWv := Lib.hid (hWv.out.below hst)
    replace hBv := Lib.hid (hBv.out.below hst hBv.out.lt)
    replace hWu := Lib.hid (hWu.out.below hst)
    replace hBu := Lib.hid (hBu.out.below hst hBu.out.lt)
    replace hWv2 := Lib.hid (hWv2.out.below hst)
    replace hBv2 := Lib.hid (hBv2.out.below hst hBv2.out.lt)
    replace hBt1 := Lib.hid (hBt1.out.below hst hBt1.out.lt)
    replace hWu2 := Lib.hid (hWu2.out.below hst)
    replace hbw := Lib.hid (hbw.out.trans (hst.mono hbw.out.size))
    clear hst al ba bb
    obtain ⟨sw12, hsw12⟩ : ∃ b, Hid (w12.heap.size = b) := ⟨_, rfl⟩
    rw [hsw12.out] at hBu2
    go_upto_region 16 with (first
     | (refine wpList_store_mid (by rfl) 32 (.tmp 30) (.tmp 136) (by rfl) w12.heap.size 0 (wtC U2.pub b12 mu c12).toArray (by rfl) (by rfl) hPa.out.there hPa.out.info (by simpa using hPa.out.one) ?_
        generalize hWq : World.setCells _ _ _ _ = Wa
        obtain rfl : v12a = Wa := by rw [← hWq]; exact hPa.out.eq
        clear hWq)
         | (refine wpList_store_mid (by rfl) 42 (.tmp 31) (.tmp 137) (by rfl) (w12.heap.size + 1) 0 (zS).toArray (by rfl) (by rfl) hPb.out.there hPb.out.info (by simpa using hPb.out.one) ?_
            generalize hWq : World.setCells _ _ _ _ = Wa
            obtain rfl : v12 = Wa := by rw [← hWq]; exact hPb.out.eq
            clear hWq))
    clear hPa hPb
    rw [hsw12.out]
    have heq := fun W => eq_root hor.out hos.out W
    obtain ⟨Q, hQe⟩ : ∃ Q, Hid (Go.Dr.eqR r s = Q) := ⟨_, rfl⟩
    rw [hQe.out, hre.out, hse.out] at heq
    have hrg := Lib.hid hBr.out.range
    have hrg2 := Lib.hid hBs.out.range
    cases Q with
    | true =>
     have hend := Lib.hid (hfin.out _ hbw.out)
     clear hfin
     go_wp2_with (first
      | (refine wpList_load_mid (by rfl) 40 (.tmp 21) (by rfl) g16 0 (by rfl) rr _ hrg.out Tryz.underlying40 (by rfl) hri.out ?_)
       | (refine wpList_load_mid (by rfl) 40 (.tmp 22) (by rfl) g17 0 (by rfl) ss _ hrg2.out Tryz.underlying40 (by rfl) hsi.out ?_))
     exact hend.out
    | false =>
     have hne : r ≠ s := fun e => by have h := hQe.out; rw [e, Go.Dr.eqR_refl] at h; cases h
     obtain ⟨z1, z2, z3, z4, z5, z6⟩ := Go.Dr.caught R1'.out.ok R2'.out.ok R1'.out.pub R2'.out.pub hrV'.out hsU'.out hrs.out hne
     have z7 := ((Go.Dr.acc_proofs (b := 4) (w := V2) (r := s)).1 z3).2
     have hok1 : OkS (Go.Dr.cmpW 4 V2 U2).1 := cmpW_ok hWv2.out.qs.oks hWu2.out.qs.oks
     have hok2 : OkS (Go.Dr.cmpW 4 U2 V2).1 := cmpW_ok hWu2.out.qs.oks hWv2.out.qs.oks
     have hc1 := Lib.hid (fun W hT h1 h2 => gcompare_any (fun _ => True) (fun _ => True) V2 b11 mv c11 U2 b12 mu c12 W hT h1 h2)
     have hc2 := Lib.hid (fun W hT h1 h2 => gcompare_any (fun _ => True) (fun _ => True) U2 b12 mu c12 V2 b11 mv c11 W hT h1 h2)
     unfold CmpPost at hc1 hc2
     obtain ⟨t1, ht1⟩ : ∃ t, (Go.Dr.cmpW 4 V2 U2).1 = t := ⟨_, rfl⟩
     obtain ⟨t2, ht2⟩ : ∃ t, (Go.Dr.cmpW 4 U2 V2).1 = t := ⟨_, rfl⟩
     obtain ⟨t3, ht3⟩ : ∃ t, (Go.Dr.accW 4 V2 s).2.1 = t := ⟨_, rfl⟩
     have hacc : Go.Dr.accW 4 V2 s = (V2, t3, 361) := by rw [← ht3, ← z3]; exact Prod.ext z7 rfl
     have hok3 : OkS t3 := acc_okS hWv2.out.qs.oks hos.out hacc
     have hacc' := Lib.hid hacc
     rw [ht1, z1] at hc1
     rw [ht2, z2] at hc2
     rw [ht1] at hok1 z4
     rw [ht2] at hok2 z5
     rw [ht3] at z6
     have hp1 := Lib.hid (fun (W : World) hT => gprove_any pub hpi.out t1 hok1 W hT)
     have hp2 := Lib.hid (fun (W : World) hT => gprove_any pub hpi.out t2 hok2 W hT)
     have hp3 := Lib.hid (fun (W : World) hT => gprove_any pub hpi.out t3 hok3 W hT)
     rw [z4] at hp1
     rw [z5] at hp2
     rw [z6] at hp3
     have hi1 : Hid ((Tryz.prog.info? 42).map (·.size) = some (spC t1).length) := sizeSp' hok1
     have hl1 : Hid ((spC t1).length = (spC Go.Dr.zeroS).length) := by show _ = _; rw [spC_length hok1, spC_length okZS]
     have hn1 := Lib.hid (spC_one t1)
     obtain ⟨q1, hq1⟩ : ∃ z, Hid (spC t1 = z) := ⟨_, rfl⟩
     rw [hq1.out] at hi1 hl1 hn1 hp1
     have hi2 : Hid ((Tryz.prog.info? 42).map (·.size) = some (spC t2).length) := sizeSp' hok2
     have hl2 : Hid ((spC t2).length = (spC Go.Dr.zeroS).length) := by show _ = _; rw [spC_length hok2, spC_length okZS]
     have hn2 := Lib.hid (spC_one t2)
     obtain ⟨q2, hq2⟩ : ∃ z, Hid (spC t2 = z) := ⟨_, rfl⟩
     rw [hq2.out] at hi2 hl2 hn2 hp2
     have hi3 : Hid ((Tryz.prog.info? 42).map (·.size) = some (spC t3).length) := sizeSp' hok3
     have hl3 : Hid ((spC t3).length = (spC Go.Dr.zeroS).length) := by show _ = _; rw [spC_length hok3, spC_length okZS]
     have hn3 := Lib.hid (spC_one t3)
     obtain ⟨q3, hq3⟩ : ∃ z, Hid (spC t3 = z) := ⟨_, rfl⟩
     rw [hq3.out] at hi3 hl3 hn3 hp3
     rw [hq1.out] at hc1
     rw [hq2.out] at hc2
     simp only at hc1 hc2
     clear z1 z2 z3 z4 z5 z6 z7 ht1 ht2 ht3 hacc hok1 hok2 hok3 hne
     have x0 := hBv2.out.at_ (i := 0) (x := .int .i64 V2.pub) rfl
     have x1 := hBv2.out.at_ (i := 1) (x := .slice b11 mv c11) rfl
     have y0 := hBu2.out.at_ (i := 0) (x := .int .i64 U2.pub) rfl
     have y1 := hBu2.out.at_ (i := 1) (x := .slice b12 mu c12) rfl
     go_wp2_with (first
      | (refine wpList_load_mid (by rfl) 40 (.tmp 21) (by rfl) g16 0 (by rfl) rr _ hrg.out Tryz.underlying40 (by rfl) hri.out ?_)
       | (refine wpList_load_mid (by rfl) 40 (.tmp 22) (by rfl) g17 0 (by rfl) ss _ hrg2.out Tryz.underlying40 (by rfl) hsi.out ?_))
     clear x0 x1 y0 y1 hrg hrg2 heq
     refine (hc1.out _ (HT'.out.below hbw.out) hWv2.out hWu2.out).mono ?_
     rintro e w13 ⟨rfl, hst⟩
     replace hDa := Lib.hid (hDa.out.below hst)
     replace hDb := Lib.hid (hDb.out.below hst)
     replace hBa := Lib.hid (hBa.out.below hst hBa.out.lt)
     replace hBb := Lib.hid (hBb.out.below hst hBb.out.lt)
     replace hBr := Lib.hid (hBr.out.below hst hBr.out.lt)
     replace hBs := Lib.hid (hBs.out.below hst hBs.out.lt)
     replace hWv := Lib.hid (hWv.out.below hst)
     replace hBv := Lib.hid (hBv.out.below hst hBv.out.lt)
     replace hWu := Lib.hid (hWu.out.below hst)
     replace hBu := Lib.hid (hBu.out.below hst hBu.out.lt)
     replace hWv2 := Lib.hid (hWv2.out.below hst)
     replace hBv2 := Lib.hid (hBv2.out.below hst hBv2.out.lt)
     replace hBt1 := Lib.hid (hBt1.out.below hst hBt1.out.lt)
     replace hWu2 := Lib.hid (hWu2.out.below hst)
     replace hBu2 := Lib.hid (hBu2.out.below hst hBu2.out.lt)
     replace hBt2 := Lib.hid (hBt2.out.below hst hBt2.out.lt)
     replace hbw := Lib.hid (hbw.out.trans (hst.mono hbw.out.size))
     clear hst hc1
     obtain ⟨v13, hP⟩ : ∃ V, Hid (PutR 42 (w13.alloc (.cells (spC Go.Dr.zeroS : List Value).toArray 42)) V w13.heap.size 42 (q1)) := put_row (Blk.new w13 42 (spC Go.Dr.zeroS)) hl1.out (hi1.out) (hn1.out)
     have hst := below_grown ((Below.refl _ w13).alloc (Nat.le_refl _) _) hP.out.grown (by simp) (Nat.le_refl _)
     replace hDa := Lib.hid (hDa.out.below hst)
     replace hDb := Lib.hid (hDb.out.below hst)
     replace hBa := Lib.hid (hBa.out.below hst hBa.out.lt)
     replace hBb := Lib.hid (hBb.out.below hst hBb.out.lt)
     replace hBr := Lib.hid (hBr.out.below hst hBr.out.lt)
     replace hBs := Lib.hid (hBs.out.below hst hBs.out.lt)
     replace hWv := Lib.hid (hWv.out.below hst)
     replace hBv := Lib.hid (hBv.out.below hst hBv.out.lt)
     replace hWu := Lib.hid (hWu.out.below hst)
     replace hBu := Lib.hid (hBu.out.below hst hBu.out.lt)
     replace hWv2 := Lib.hid (hWv2.out.below hst)
     replace hBv2 := Lib.hid (hBv2.out.below hst hBv2.out.lt)
     replace hBt1 := Lib.hid (hBt1.out.below hst hBt1.out.lt)
     replace hWu2 := Lib.hid (hWu2.out.below hst)
     replace hBu2 := Lib.hid (hBu2.out.below hst hBu2.out.lt)
     replace hBt2 := Lib.hid (hBt2.out.below hst hBt2.out.lt)
     replace hbw := Lib.hid (hbw.out.trans (hst.mono hbw.out.size))
     clear hst
     have hS1 := Lib.hid hP.out.blk
     go_upto_region 21 with (first
      | (refine wpList_store_mid (by rfl) 42 (.tmp 33) (.tmp 160) (by rfl) w13.heap.size 0 (q1).toArray (by rfl) (by rfl) hP.out.there hP.out.info (by simpa using hP.out.one) ?_
         generalize hWq : World.setCells _ _ _ _ = Wa
         obtain rfl : v13 = Wa := by rw [← hWq]; exact hP.out.eq
         clear hWq))
     clear hP
     have x0 := hBv2.out.at_ (i := 0) (x := .int .i64 V2.pub) rfl
     have x1 := hBv2.out.at_ (i := 1) (x := .slice b11 mv c11) rfl
     have y0 := hBu2.out.at_ (i := 0) (x := .int .i64 U2.pub) rfl
     have y1 := hBu2.out.at_ (i := 1) (x := .slice b12 mu c12) rfl
     go_wp2_with fail
     clear x0 x1 y0 y1
     refine (hc2.out _ (HT'.out.below hbw.out) hWu2.out hWv2.out).mono ?_
     rintro e w14 ⟨rfl, hst⟩
     replace hDa := Lib.hid (hDa.out.below hst)
     replace hDb := Lib.hid (hDb.out.below hst)
     replace hBa := Lib.hid (hBa.out.below hst hBa.out.lt)
     replace hBb := Lib.hid (hBb.out.below hst hBb.out.lt)
     replace hBr := Lib.hid (hBr.out.below hst hBr.out.lt)
     replace hBs := Lib.hid (hBs.out.below hst hBs.out.lt)
     replace hWv := Lib.hid (hWv.out.below hst)
     replace hBv := Lib.hid (hBv.out.below hst hBv.out.lt)
     replace hWu := Lib.hid (hWu.out.below hst)
     replace hBu := Lib.hid (hBu.out.below hst hBu.out.lt)
     replace hWv2 := Lib.hid (hWv2.out.below hst)
     replace hBv2 := Lib.hid (hBv2.out.below hst hBv2.out.lt)
     replace hBt1 := Lib.hid (hBt1.out.below hst hBt1.out.lt)
     replace hWu2 := Lib.hid (hWu2.out.below hst)
     replace hBu2 := Lib.hid (hBu2.out.below hst hBu2.out.lt)
     replace hBt2 := Lib.hid (hBt2.out.below hst hBt2.out.lt)
     replace hS1 := Lib.hid (hS1.out.below hst hS1.out.lt)
     replace hbw := Lib.hid (hbw.out.trans (hst.mono hbw.out.size))
     clear hst hc2
     obtain ⟨v14, hP⟩ : ∃ V, Hid (PutR 42 (w14.alloc (.cells (spC Go.Dr.zeroS : List Value).toArray 42)) V w14.heap.size 42 (q2)) := put_row (Blk.new w14 42 (spC Go.Dr.zeroS)) hl2.out (hi2.out) (hn2.out)
     have hst := below_grown ((Below.refl _ w14).alloc (Nat.le_refl _) _) hP.out.grown (by simp) (Nat.le_refl _)
     replace hDa := Lib.hid (hDa.out.below hst)
     replace hDb := Lib.hid (hDb.out.below hst)
     replace hBa := Lib.hid (hBa.out.below hst hBa.out.lt)
     replace hBb := Lib.hid (hBb.out.below hst hBb.out.lt)
     replace hBr := Lib.hid (hBr.out.below hst hBr.out.lt)
     replace hBs := Lib.hid (hBs.out.below hst hBs.out.lt)
     replace hWv := Lib.hid (hWv.out.below hst)
     replace hBv := Lib.hid (hBv.out.below hst hBv.out.lt)
     replace hWu := Lib.hid (hWu.out.below hst)
     replace hBu := Lib.hid (hBu.out.below hst hBu.out.lt)
     replace hWv2 := Lib.hid (hWv2.out.below hst)
     replace hBv2 := Lib.hid (hBv2.out.below hst hBv2.out.lt)
     replace hBt1 := Lib.hid (hBt1.out.below hst hBt1.out.lt)
     replace hWu2 := Lib.hid (hWu2.out.below hst)
     replace hBu2 := Lib.hid (hBu2.out.below hst hBu2.out.lt)
     replace hBt2 := Lib.hid (hBt2.out.below hst hBt2.out.lt)
     replace hS1 := Lib.hid (hS1.out.below hst hS1.out.lt)
     replace hbw := Lib.hid (hbw.out.trans (hst.mono hbw.out.size))
     clear hst
     have hS2 := Lib.hid hP.out.blk
     go_upto_region 22 with (first
      | (refine wpList_store_mid (by rfl) 42 (.tmp 35) (.tmp 166) (by rfl) w14.heap.size 0 (q2).toArray (by rfl) (by rfl) hP.out.there hP.out.info (by simpa using hP.out.one) ?_
         generalize hWq : World.setCells _ _ _ _ = Wa
         obtain rfl : v14 = Wa := by rw [← hWq]; exact hP.out.eq
         clear hWq))
     clear hP
     have x0 := hBv2.out.at_ (i := 0) (x := .int .i64 V2.pub) rfl
     have x1 := hBv2.out.at_ (i := 1) (x := .slice b11 mv c11) rfl
     have hrg := Lib.hid hBs.out.range
     go_wp2_with (first
      | (refine wpList_load_mid (by rfl) 40 (.tmp 22) (by rfl) g17 0 (by rfl) ss _ hrg.out Tryz.underlying40 (by rfl) hsi.out ?_))
     clear hrg x0 x1
     have hac := Lib.hid (fun (W : World) hT hM => accept_at (K := fun _ => True) hacc'.out hmv.out hos.out hse.out (a := b11) (n := mv) (c := c11) (w := W) hT hM)
     rw [hq3.out] at hac
     refine (hac.out _ (HT'.out.below hbw.out) hWv2.out).mono ?_
     rintro e w15 ⟨b15, c15, rfl, hW0, hst⟩
     replace hDa := Lib.hid (hDa.out.below hst)
     replace hDb := Lib.hid (hDb.out.below hst)
     replace hBa := Lib.hid (hBa.out.below hst hBa.out.lt)
     replace hBb := Lib.hid (hBb.out.below hst hBb.out.lt)
     replace hBr := Lib.hid (hBr.out.below hst hBr.out.lt)
     replace hBs := Lib.hid (hBs.out.below hst hBs.out.lt)
     replace hWv := Lib.hid (hWv.out.below hst)
     replace hBv := Lib.hid (hBv.out.below hst hBv.out.lt)
     replace hWu := Lib.hid (hWu.out.below hst)
     replace hBu := Lib.hid (hBu.out.below hst hBu.out.lt)
     replace hWv2 := Lib.hid (hWv2.out.below hst)
     replace hBv2 := Lib.hid (hBv2.out.below hst hBv2.out.lt)
     replace hBt1 := Lib.hid (hBt1.out.below hst hBt1.out.lt)
     replace hWu2 := Lib.hid (hWu2.out.below hst)
     replace hBu2 := Lib.hid (hBu2.out.below hst hBu2.out.lt)
     replace hBt2 := Lib.hid (hBt2.out.below hst hBt2.out.lt)
     replace hS1 := Lib.hid (hS1.out.below hst hS1.out.lt)
     replace hS2 := Lib.hid (hS2.out.below hst hS2.out.lt)
     replace hbw := Lib.hid (hbw.out.trans (hst.mono hbw.out.size))
     have hWv3 : Hid (WM (fun _ => True) w15 V2 b15 mv c15) := hW0.imp (fun _ _ _ => trivial)
     clear hst hW0 hac
     have al : Below w15.heap.size w15 ((w15.alloc (.cells (wtC 0 none 0 0).toArray 32)).alloc (.cells (spC Go.Dr.zeroS).toArray 42)) := ((Below.refl _ w15).alloc (Nat.le_refl _) _).alloc (by simp) _
     have ba := (Blk.new w15 32 (wtC 0 none 0 0)).alloc (.cells (spC Go.Dr.zeroS).toArray 42)
     have bb := Blk.new (w15.alloc (.cells (wtC 0 none 0 0).toArray 32)) 42 (spC Go.Dr.zeroS)
     rw [World.size_alloc] at bb
     obtain ⟨v15a, hPa⟩ : ∃ Vq, Hid (PutR 32 ((w15.alloc (.cells (wtC 0 none 0 0).toArray 32)).alloc (.cells (spC Go.Dr.zeroS).toArray 42)) Vq w15.heap.size 32 (wtC V2.pub b15 mv c15)) := put_row ba rfl sizeWt (wt_one _ _ _ _)
     obtain ⟨v15, hPb⟩ : ∃ Vq, Hid (PutR 42 v15a Vq (w15.heap.size + 1) 42 q3) := put_row (bb.grown hPa.out.grown (by intro e; injection e; omega)) hl3.out hi3.out hn3.out
     have hst := below_grown (below_grown al hPa.out.grown al.size (Nat.le_refl _)) hPb.out.grown (Nat.le_trans al.size hPa.out.grown.size) (Nat.le_succ _)
     have hBv3 := Lib.hid (hPa.out.blk.grown hPb.out.grown (by intro e; injection e; omega))
     have hS3 := Lib.hid hPb.out.blk
     replace hDa := Lib.hid (hDa.out.below hst)
     replace hDb := Lib.hid (hDb.out.below hst)
     replace hBa := Lib.hid (hBa.out.below hst hBa.out.lt)
     replace hBb := Lib.hid (hBb.out.below hst hBb.out.lt)
     replace hBr := Lib.hid (hBr.out.below hst hBr.out.lt)
     replace hBs := Lib.hid (hBs.out.below hst hBs.out.lt)
     replace hWv := Lib.hid (hWv.out.below hst)
     replace hBv := Lib.hid (hBv.out.below hst hBv.out.lt)
     replace hWu := Lib.hid (hWu.out.below hst)
     replace hBu := Lib.hid (hBu.out.below hst hBu.out.lt)
     replace hWv2 := Lib.hid (hWv2.out.below hst)
     replace hBv2 := Lib.hid (hBv2.out.below hst hBv2.out.lt)
     replace hBt1 := Lib.hid (hBt1.out.below hst hBt1.out.lt)
     replace hWu2 := Lib.hid (hWu2.out.below hst)
     replace hBu2 := Lib.hid (hBu2.out.below hst hBu2.out.lt)
     replace hBt2 := Lib.hid (hBt2.out.below hst hBt2.out.lt)
     replace hS1 := Lib.hid (hS1.out.below hst hS1.out.lt)
     replace hS2 := Lib.hid (hS2.out.below hst hS2.out.lt)
     replace hWv3 := Lib.hid (hWv3.out.below hst)
     replace hbw := Lib.hid (hbw.out.trans (hst.mono hbw.out.size))
     clear hst al ba bb
     obtain ⟨sw15, hsw15⟩ : ∃ b, Hid (w15.heap.size = b) := ⟨_, rfl⟩
     rw [hsw15.out] at hBv3
     go_upto_region 23 with (first
      | (refine wpList_store_mid (by rfl) 32 (.tmp 37) (.tmp 172) (by rfl) w15.heap.size 0 (wtC V2.pub b15 mv c15).toArray (by rfl) (by rfl) hPa.out.there hPa.out.info (by simpa using hPa.out.one) ?_
         generalize hWq : World.setCells _ _ _ _ = Wa
         obtain rfl : v15a = Wa := by rw [← hWq]; exact hPa.out.eq
         clear hWq)
          | (refine wpList_store_mid (by rfl) 42 (.tmp 38) (.tmp 173) (by rfl) (w15.heap.size + 1) 0 (q3).toArray (by rfl) (by rfl) hPb.out.there hPb.out.info (by simpa using hPb.out.one) ?_
             generalize hWq : World.setCells _ _ _ _ = Wa
             obtain rfl : v15 = Wa := by rw [← hWq]; exact hPb.out.eq
             clear hWq))
     clear hPa hPb
     rw [hsw15.out]
     have hrg := Lib.hid hS1.out.range
     go_wp2_with (first
      | (refine wpList_load_gd (by rfl) 42 (.tmp 33) (by rfl) w13.heap.size 0 (by rfl) q1 _ hrg.out Tryz.underlying42 (by rfl) hi1.out ?_))
     clear hrg
     refine (hp1.out _ (HT'.out.below hbw.out)).mono ?_
     rintro e w16 ⟨rfl, hst⟩
     replace hDa := Lib.hid (hDa.out.below hst)
     replace hDb := Lib.hid (hDb.out.below hst)
     replace hBa := Lib.hid (hBa.out.below hst hBa.out.lt)
     replace hBb := Lib.hid (hBb.out.below hst hBb.out.lt)
     replace hBr := Lib.hid (hBr.out.below hst hBr.out.lt)
     replace hBs := Lib.hid (hBs.out.below hst hBs.out.lt)
     replace hWv := Lib.hid (hWv.out.below hst)
     replace hBv := Lib.hid (hBv.out.below hst hBv.out.lt)
     replace hWu := Lib.hid (hWu.out.below hst)
     replace hBu := Lib.hid (hBu.out.below hst hBu.out.lt)
     replace hWv2 := Lib.hid (hWv2.out.below hst)
     replace hBv2 := Lib.hid (hBv2.out.below hst hBv2.out.lt)
     replace hBt1 := Lib.hid (hBt1.out.below hst hBt1.out.lt)
     replace hWu2 := Lib.hid (hWu2.out.below hst)
     replace hBu2 := Lib.hid (hBu2.out.below hst hBu2.out.lt)
     replace hBt2 := Lib.hid (hBt2.out.below hst hBt2.out.lt)
     replace hS1 := Lib.hid (hS1.out.below hst hS1.out.lt)
     replace hS2 := Lib.hid (hS2.out.below hst hS2.out.lt)
     replace hWv3 := Lib.hid (hWv3.out.below hst)
     replace hBv3 := Lib.hid (hBv3.out.below hst hBv3.out.lt)
     replace hS3 := Lib.hid (hS3.out.below hst hS3.out.lt)
     replace hbw := Lib.hid (hbw.out.trans (hst.mono hbw.out.size))
     clear hst
     have hrg := Lib.hid hS2.out.range
     go_wp2_with (first
      | (refine wpList_load_gd (by rfl) 42 (.tmp 35) (by rfl) w14.heap.size 0 (by rfl) q2 _ hrg.out Tryz.underlying42 (by rfl) hi2.out ?_))
     clear hrg
     refine (hp2.out _ (HT'.out.below hbw.out)).mono ?_
     rintro e w17 ⟨rfl, hst⟩
     replace hDa := Lib.hid (hDa.out.below hst)
     replace hDb := Lib.hid (hDb.out.below hst)
     replace hBa := Lib.hid (hBa.out.below hst hBa.out.lt)
     replace hBb := Lib.hid (hBb.out.below hst hBb.out.lt)
     replace hBr := Lib.hid (hBr.out.below hst hBr.out.lt)
     replace hBs := Lib.hid (hBs.out.below hst hBs.out.lt)
     replace hWv := Lib.hid (hWv.out.below hst)
     replace hBv := Lib.hid (hBv.out.below hst hBv.out.lt)
     replace hWu := Lib.hid (hWu.out.below hst)
     replace hBu := Lib.hid (hBu.out.below hst hBu.out.lt)
     replace hWv2 := Lib.hid (hWv2.out.below hst)
     replace hBv2 := Lib.hid (hBv2.out.below hst hBv2.out.lt)
     replace hBt1 := Lib.hid (hBt1.out.below hst hBt1.out.lt)
     replace hWu2 := Lib.hid (hWu2.out.below hst)
     replace hBu2 := Lib.hid (hBu2.out.below hst hBu2.out.lt)
     replace hBt2 := Lib.hid (hBt2.out.below hst hBt2.out.lt)
     replace hS1 := Lib.hid (hS1.out.below hst hS1.out.lt)
     replace hS2 := Lib.hid (hS2.out.below hst hS2.out.lt)
     replace hWv3 := Lib.hid (hWv3.out.below hst)
     replace hBv3 := Lib.hid (hBv3.out.below hst hBv3.out.lt)
     replace hS3 := Lib.hid (hS3.out.below hst hS3.out.lt)
     replace hbw := Lib.hid (hbw.out.trans (hst.mono hbw.out.size))
     clear hst
     have hS3q := hS3.out
     rw [hsw15.out] at hS3q
     have hS3r := Lib.hid hS3q
     have hrg := Lib.hid hS3r.out.range
     go_wp2_with (first
      | (refine wpList_load_gd (by rfl) 42 (.tmp 38) (by rfl) (sw15 + 1) 0 (by rfl) q3 _ hrg.out Tryz.underlying42 (by rfl) hi3.out ?_))
     clear hrg
     clear hS3q hS3r
     refine (hp3.out _ (HT'.out.below hbw.out)).mono ?_
     rintro e w18 ⟨rfl, hst⟩
     replace hDa := Lib.hid (hDa.out.below hst)
     replace hDb := Lib.hid (hDb.out.below hst)
     replace hBa := Lib.hid (hBa.out.below hst hBa.out.lt)
     replace hBb := Lib.hid (hBb.out.below hst hBb.out.lt)
     replace hBr := Lib.hid (hBr.out.below hst hBr.out.lt)
     replace hBs := Lib.hid (hBs.out.below hst hBs.out.lt)
     replace hWv := Lib.hid (hWv.out.below hst)
     replace hBv := Lib.hid (hBv.out.below hst hBv.out.lt)
     replace hWu := Lib.hid (hWu.out.below hst)
     replace hBu := Lib.hid (hBu.out.below hst hBu.out.lt)
     replace hWv2 := Lib.hid (hWv2.out.below hst)
     replace hBv2 := Lib.hid (hBv2.out.below hst hBv2.out.lt)
     replace hBt1 := Lib.hid (hBt1.out.below hst hBt1.out.lt)
     replace hWu2 := Lib.hid (hWu2.out.below hst)
     replace hBu2 := Lib.hid (hBu2.out.below hst hBu2.out.lt)
     replace hBt2 := Lib.hid (hBt2.out.below hst hBt2.out.lt)
     replace hS1 := Lib.hid (hS1.out.below hst hS1.out.lt)
     replace hS2 := Lib.hid (hS2.out.below hst hS2.out.lt)
     replace hWv3 := Lib.hid (hWv3.out.below hst)
     replace hBv3 := Lib.hid (hBv3.out.below hst hBv3.out.lt)
     replace hS3 := Lib.hid (hS3.out.below hst hS3.out.lt)
     replace hbw := Lib.hid (hbw.out.trans (hst.mono hbw.out.size))
     clear hst
     have hend := Lib.hid (hfin.out _ hbw.out)
     clear hfin
     go_wp2_with fail
     exact hend.out
end Go.Proofs.YthnfjkgiaanmhaaGreatDoor
namespace Go.Proofs.YthnfjkgiaanmhaaGreatDoor.lawGCaught
open Go.ChangeShapes Go.WideShapes Go.ChangeAt Go.RowKit Go.Mem
open Go.Proofs.YthnfjkgiaanmhaaGreatDoor

set_option maxRecDepth 100000 in
theorem lifted (os : Os) (started : os.Started) (H : Type) (enc : TypeId × Value → H) :
 ReturnsInHanded {} Tryz.checked os 4 .any (fun w args => (Rows.gossipCaughtSpec.pre enc Tryz.prog Tryz.f4 [] false w args ∧ laidMetH Tryz.prog laid2 w) ∧ sizedMet enc Tryz.prog Tryz.f4 (OpenSpec.ofChange Rows.gossipCaughtSpec) false w args)
  (Rows.gossipCaughtSpec.post enc Tryz.prog Tryz.f4 false true false false) := by
 refine returnsInHanded_of_change_and (C := Tryz.checked) (X := fun w _ => laidMetH Tryz.prog laid2 w) (fun _ _ _ hh h => h.of_heap hh) own started (by kernel_rfl) Tryz.func4
  (ChangeSpec.witness_shaped (enc := enc) (C := Tryz.checked) (os := os) (X := fun w _ => laidMetH Tryz.prog laid2 w) false (World.doorLaid Tryz.prog 400 os) #[.int .i64 0, .slice none 0 0, .slice none 0 0, .slice none 0 0, .int .u8 0, .slice none 0 0, .slice none 0 0] 8 rfl (World.shaped_of_RefB (by kernel_rfl) (by kernel_rfl)) (by kernel_rfl) (by kernel_rfl) (by kernel_rfl) (door_met os _)) ?_
 intro W base args ds gs before hval0 hW _ hwt hL _
 have hval : ∀ (j : Nat) t v, Tryz.f4.params[j]? = some t → args[j]? = some v → Value.okWide Tryz.prog W .any base t v := hval0
 have hW' := hW
 obtain ⟨p, q, hA0, hV, rfl, hfz, hnd⟩ := hW
 have hA : DataW.TrodAll enc Tryz.prog W 0 (fun _ => true) true Tryz.f4.params.toList args.toList ds p := hA0
 rw [Tryz.params4] at hA hval
 obtain ⟨v0, vs0, d0, ds0, p0, q0, hargs, rfl, rfl, h0, r0⟩ := trodAll_cons hA
 obtain ⟨v1, vs1, d1, ds1, p1, q1, rfl, rfl, rfl, h1, r1⟩ := trodAll_cons r0
 obtain ⟨v2, vs2, d2, ds2, p2, q2, rfl, rfl, rfl, h2, r2⟩ := trodAll_cons r1
 obtain ⟨v3, vs3, d3, ds3, p3, q3, rfl, rfl, rfl, h3, r3⟩ := trodAll_cons r2
 obtain ⟨v4, vs4, d4, ds4, p4, q4, rfl, rfl, rfl, h4, r4⟩ := trodAll_cons r3
 obtain ⟨v5, vs5, d5, ds5, p5, q5, rfl, rfl, rfl, h5, r5⟩ := trodAll_cons r4
 obtain ⟨v6, vs6, d6, ds6, p6, q6, rfl, rfl, rfl, h6, r6⟩ := trodAll_cons r5
 obtain ⟨rfl, rfl, rfl⟩ := trodAll_nil r6
 obtain rfl : args = #[v0, v1, v2, v3, v4, v5, v6] := by cases args; simp_all
 obtain ⟨rfl, rfl⟩ := trodVars_none hV
 have lt0 : ∀ x ∈ p0, x.block < W.heap.size := by obtain ⟨m, hm⟩ := h0; exact DataW.trod_lt m _ _ _ hm
 have lt1 : ∀ x ∈ p1, x.block < W.heap.size := by obtain ⟨m, hm⟩ := h1; exact DataW.trod_lt m _ _ _ hm
 have lt2 : ∀ x ∈ p2, x.block < W.heap.size := by obtain ⟨m, hm⟩ := h2; exact DataW.trod_lt m _ _ _ hm
 have lt3 : ∀ x ∈ p3, x.block < W.heap.size := by obtain ⟨m, hm⟩ := h3; exact DataW.trod_lt m _ _ _ hm
 have lt4 : ∀ x ∈ p4, x.block < W.heap.size := by obtain ⟨m, hm⟩ := h4; exact DataW.trod_lt m _ _ _ hm
 have lt5 : ∀ x ∈ p5, x.block < W.heap.size := by obtain ⟨m, hm⟩ := h5; exact DataW.trod_lt m _ _ _ hm
 have lt6 : ∀ x ∈ p6, x.block < W.heap.size := by obtain ⟨m, hm⟩ := h6; exact DataW.trod_lt m _ _ _ hm
 have k0' := h0
 have k1' := h1
 have k2' := h2
 have k3' := h3
 have k4' := h4
 have k5' := h5
 have k6' := h6
 obtain ⟨x0, rfl⟩ := okWide_int Tryz.underlying3 (hval 0 3 v0 rfl rfl)
 obtain ⟨m0, hm0⟩ := h0
 obtain ⟨x0', e0, i0⟩ := open_int1 (cs := [.int .i64 x0]) (by simpa [Value.cells] using hm0)
 obtain rfl : x0 = x0' := by simpa using e0
 clear hm0 e0
 obtain ⟨a1, n1, c1, rfl⟩ := okWide_slice Tryz.underlying22 (hval 1 22 v1 rfl rfl)
 obtain ⟨m1, hm1⟩ := h1
 obtain ⟨_, _, _, l1, e1, S1⟩ := open_lss (cs := [.slice a1 n1 c1]) (by simpa [Value.cells] using hm1)
 simp only [List.cons.injEq, Value.slice.injEq, and_true] at e1
 obtain ⟨rfl, rfl, rfl⟩ := e1
 clear hm1
 obtain ⟨a2, n2, c2, rfl⟩ := okWide_slice Tryz.underlying22 (hval 2 22 v2 rfl rfl)
 obtain ⟨m2, hm2⟩ := h2
 obtain ⟨_, _, _, l2, e2, S2⟩ := open_lss (cs := [.slice a2 n2 c2]) (by simpa [Value.cells] using hm2)
 simp only [List.cons.injEq, Value.slice.injEq, and_true] at e2
 obtain ⟨rfl, rfl, rfl⟩ := e2
 clear hm2
 obtain ⟨a3, n3, c3, rfl⟩ := okWide_slice Tryz.underlying22 (hval 3 22 v3 rfl rfl)
 obtain ⟨m3, hm3⟩ := h3
 obtain ⟨_, _, _, l3, e3, S3⟩ := open_lss (cs := [.slice a3 n3 c3]) (by simpa [Value.cells] using hm3)
 simp only [List.cons.injEq, Value.slice.injEq, and_true] at e3
 obtain ⟨rfl, rfl, rfl⟩ := e3
 clear hm3
 obtain ⟨z4, rfl⟩ := okWide_int Tryz.underlying5 (hval 4 5 v4 rfl rfl)
 obtain ⟨m4, hm4⟩ := h4
 obtain ⟨x4, e4, i4⟩ := open_u8 (cs := [.int .u8 z4]) (by simpa [Value.cells] using hm4)
 obtain rfl : z4 = (x4 : Int) := by simpa using e4
 clear hm4 e4
 obtain ⟨a5, n5, c5, rfl⟩ := okWide_slice Tryz.underlying23 (hval 5 23 v5 rfl rfl)
 obtain ⟨m5, hm5⟩ := h5
 obtain ⟨_, _, _, l5, e5, S5⟩ := open_bytes' (cs := [.slice a5 n5 c5]) (by simpa [Value.cells] using hm5)
 simp only [List.cons.injEq, Value.slice.injEq, and_true] at e5
 obtain ⟨rfl, rfl, rfl⟩ := e5
 clear hm5
 obtain ⟨a6, n6, c6, rfl⟩ := okWide_slice Tryz.underlying23 (hval 6 23 v6 rfl rfl)
 obtain ⟨m6, hm6⟩ := h6
 obtain ⟨_, _, _, l6, e6, S6⟩ := open_bytes' (cs := [.slice a6 n6 c6]) (by simpa [Value.cells] using hm6)
 simp only [List.cons.injEq, Value.slice.injEq, and_true] at e6
 obtain ⟨rfl, rfl, rfl⟩ := e6
 clear hm6
 have hT := tabs_of_laid hL
 clear hA0 hval0
 refine (gcaught_walk x0 i0 a1 n1 c1 l1 a2 n2 c2 l2 a3 n3 c3 l3 x4 i4 a5 n5 c5 l5 a6 n6 c6 l6 W hT S1 S2 S3 S5 S6).mono fun e W' ⟨he, bel⟩ => ?_
 subst he
 exact ⟨_, rfl, _, _, _, [], _, [], hW', trodAll_mk1 (shut_bool Tryz.underlying4 _),
  (trodAll_cons_mk (Below.trod laidOut (by kernel_rfl) (of_decide_eq_true (by kernel_rfl)) k0' bel lt0) (trodAll_cons_mk (Below.trod laidOut (by kernel_rfl) (of_decide_eq_true (by kernel_rfl)) k1' bel lt1) (trodAll_cons_mk (Below.trod laidOut (by kernel_rfl) (of_decide_eq_true (by kernel_rfl)) k2' bel lt2) (trodAll_cons_mk (Below.trod laidOut (by kernel_rfl) (of_decide_eq_true (by kernel_rfl)) k3' bel lt3) (trodAll_cons_mk (Below.trod laidOut (by kernel_rfl) (of_decide_eq_true (by kernel_rfl)) k4' bel lt4) (trodAll_cons_mk (Below.trod laidOut (by kernel_rfl) (of_decide_eq_true (by kernel_rfl)) k5' bel lt5) (trodAll_cons_mk (Below.trod laidOut (by kernel_rfl) (of_decide_eq_true (by kernel_rfl)) k6' bel lt6) trodAll_mk0))))))), rfl, bel.frame _, fun h => by cases h⟩

theorem over : Rows.GossipCaughtSaid :=
 OpenClaim.holds_of_wide 4 Tryz.f4 rfl rfl rfl rfl rfl rfl rfl ⟨rfl, rfl, rfl, rfl, rfl⟩ rfl rfl rfl rfl rfl (by kernel_rfl) Tryz.func4 (by kernel_rfl)
  (of_decide_eq_true (by kernel_rfl)) (by unfold Func.isWrapper; first | (rw [if_pos (by decide +kernel)]; kernel_rfl) | (rw [if_neg (by decide +kernel)]; exact ⟨rfl, rfl⟩))
  (fun os started H enc _ => lifted os started H enc)

theorem proved : Rows.GossipCaughtCardSaid :=
 Claim7.holds_tied_plain_at .later [] [.data, .data, .sentinel] true (true, "c578d5295a2e4adb68b76fd72e8b48f6cb8355a5e326fb92d1d1f12a6d59b363") false
  over (fun _ h => by cases h) (by kernel_rfl) (fun _ h => by cases h) gossipCaught_row_tie rfl ⟨rfl, rfl⟩ (by kernel_rfl) rfl
  (fun f fn hf hfn => by
    obtain rfl : f = 4 := Option.some.inj ((show Tryz.prog.funcNamed "chartroom/chartroomlaw36.GossipCaught" = some 4 by kernel_rfl).symm.trans hf) |>.symm
    obtain rfl : fn = Tryz.f4 := (Option.some.inj (Tryz.func4.symm.trans hfn)).symm
    exact ⟨by kernel_rfl, fun j t ht => by
     rw [Tryz.params4] at ht
     have hm : t ∈ [3, 22, 22, 22, 5, 23, 23] := by simpa using Array.mem_of_getElem? ht
     have hall : ([3, 22, 22, 22, 5, 23, 23].all fun u => !Tryz.prog.wantsStandIn u) = true := by kernel_rfl
     exact (show Tryz.prog.wantsStandIn t = false by simpa using List.all_eq_true.1 hall t hm)⟩)
  (by kernel_rfl)
#print axioms proved
end Go.Proofs.YthnfjkgiaanmhaaGreatDoor.lawGCaught
