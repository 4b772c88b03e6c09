/- the law GossipSpec walked -/
import Derived.Test.YtlpgjdlkjahdgaaGreatDoorAl
import Derived.Test.YtlpgjdlkjahdgaaGreatDoorGe
import Derived.Test.YtlpgjdlkjahdgaaGreatDoorFx
import Derived.Test.YtlpgjdlkjahdgaaGreatDoorRd
import Derived.Test.YtlpgjdlkjahdgaaGreatDoorCards
import Derived.Test.YtlpgjdlkjahdgaaGreatDoorTie
import Derived.SevenTiedAt
import Derived.Deep.DeepHandedRow
import Derived.Deep.DeepWitnessRowRef
namespace Go.Proofs.YtlpgjdlkjahdgaaGreatDoor
open Go.RowKit Go.Mem
open Go.Dr (Lst Rt Dir Wt)

def SgW (w : World) (tb q5 q6 : Nat) (r sC : List Value) (wz : World) : Prop := Blk wz tb 69 r ∧ Blk wz q5 64 sC ∧ Blk wz q6 64 sC ∧ Below w.heap.size w wz
theorem SgW.next {w wz wq : World} {tb q5 q6 : Nat} {r sC : List Value} (hb : Below wz.heap.size wz wq) (h : SgW w tb q5 q6 r sC wz) : SgW w tb q5 q6 r sC wq := ⟨h.1.below hb h.1.lt, h.2.1.below hb h.2.1.lt, h.2.2.1.below hb h.2.2.1.lt, h.2.2.2.trans (hb.mono h.2.2.2.size)⟩
set_option maxRecDepth 100000 in
set_option maxHeartbeats 40000000 in
theorem gspec_walk (V : Wt) (a : Option Addr) (n c : Nat) (U : Wt) (a2 : Option Addr) (n2 c2 : Nat) (p : Int) (hp : I64 p) (w : World) (HT : Tabs w) (H : WM (fun _ => True) w V a n c) (H2 : WM (fun _ => True) w U a2 n2 c2) :
 Calls Tryz.prog 7 #[.agg (wtC V.pub a n c).toArray, .agg (wtC U.pub a2 n2 c2).toArray, .int .i64 p] w (RetBo true w) := by
 have HT' := Lib.hid HT
 have hp' := Lib.hid hp
 have hlv : Hid (V.rs.length = n) := H.len
 have hlu : Hid (U.rs.length = n2) := H2.len
 clear HT hp
 obtain ⟨X, hX⟩ : ∃ X, X = RetBo true w := ⟨_, rfl⟩
 have hfin : Hid (∀ W, Below w.heap.size w W → X (.returned (.bool true)) W) := fun W hb => by rw [hX]; exact ⟨rfl, hb⟩
 rw [← hX]
 clear hX
 obtain ⟨y, hy0⟩ : ∃ y, Hid (Go.Dr.cmpW 4 V U = y) := ⟨_, rfl⟩
 obtain ⟨C, E⟩ := y
 have hok : Hid (OkS C) := by
  have := cmpW_ok H.qs.oks H2.qs.oks
  rw [hy0.out] at this
  exact this
 obtain ⟨sC, hsC⟩ : ∃ z, Hid (spC C = z) := ⟨_, rfl⟩
 have hfl : Hid (sC.length = (spC Go.Dr.zeroS).length) := by show _ = _; rw [← hsC.out, spC_length hok.out, spC_length okZS]
 have hfi : Hid ((Tryz.prog.info? 64).map (·.size) = some sC.length) := by show _ = _; rw [← hsC.out]; exact sizeSp' hok.out
 have hf1 : Hid (∀ u ∈ sC, u.oneCell' = true) := by rw [← hsC.out]; exact spC_one C
 have heq : Hid (∀ W : World, (Op.equalIn 10000 64 (.agg sC.toArray) (.agg sC.toArray)).run Tryz.prog W = .ok true W) := by rw [← hsC.out]; exact fun W => eq_split hok.out W
 obtain ⟨CK, hCK⟩ : ∃ q, Hid (chkW 4 V = q) := ⟨_, rfl⟩
 have hgc := Lib.hid (fun (W : World) hT h1 h2 => gcompare_any (fun _ => True) (fun _ => True) V a n c U a2 n2 c2 W hT h1 h2)
 have hrc := Lib.hid (fun (hn : n ≤ 100000) (W : World) h1 h2 => r36compare_any (fun _ => True) (fun _ => True) V a n c U a2 n2 c2 W h1 h2 hn)
 have hk1 := Lib.hid (fun (W : World) hT h1 => gchk_any (fun _ => True) V a n c W hT h1)
 have hk2 := Lib.hid (fun (W : World) h1 => r36check_any (fun _ => True) V a n c W h1)
 have hnw := Lib.hid (fun (W : World) => gnew_any p W)
 have hnr := Lib.hid (fun (W : World) => r36new_any p W)
 have hsm : Hid (∀ W : World, Calls Tryz.prog 40 #[.agg (wtC p none 0 0).toArray, .agg (wtC p none 0 0).toArray] W (RetBo true W)) := fun W => same36_any (fun _ => True) (fun _ => True) ⟨p, []⟩ none 0 0 none 0 W ⟨hp'.out, RS.nil0 _ _ _⟩ ⟨hp'.out, RS.nil0 _ _ _⟩
 unfold CmpPost at hgc hrc
 rw [hy0.out] at hgc hrc
 simp only at hgc hrc
 rw [hsC.out] at hgc hrc
 rw [hCK.out] at hk1 hk2
 clear hy0 hCK hok hsC
 obtain ⟨v0, hW0⟩ : ∃ W, Hid (((w.alloc (.cells (wtC V.pub a n c).toArray 69)).alloc (.cells (wtC U.pub a2 n2 c2).toArray 69)) = W) := ⟨_, rfl⟩
 obtain ⟨b0, hb0⟩ : ∃ b, Hid (w.heap.size = b) := ⟨_, rfl⟩
 obtain ⟨b1, hb1⟩ : ∃ b, Hid (b0 + 1 = b) := ⟨_, rfl⟩
 have hBv : Hid (Blk v0 b0 69 (wtC V.pub a n c)) := by
  rw [← hW0.out, ← hb0.out]
  have hh := (Blk.new w 69 (wtC V.pub a n c)).alloc (.cells (wtC U.pub a2 n2 c2).toArray 69)
  exact hh
 have hBu : Hid (Blk v0 b1 69 (wtC U.pub a2 n2 c2)) := by
  rw [← hW0.out, ← hb1.out, ← hb0.out]
  have hh := Blk.new (w.alloc (.cells (wtC V.pub a n c).toArray 69)) 69 (wtC U.pub a2 n2 c2)
  rw [World.size_alloc] at hh
  exact hh
 have hbw : Hid (Below w.heap.size w v0) := by rw [← hW0.out]; exact ((Below.refl _ w).alloc (Nat.le_refl _) _).alloc (by simp) _
 have hW0q := hW0.out
 have hV := Lib.hid (H.below hbw.out)
 have hU := Lib.hid (H2.below hbw.out)
 clear H H2
 go_enter Tryz.func7, Tryz.ntmps7
 go_upto_region 1 with fail
 rw [hb0.out, hb1.out]
 generalize hWz : World.alloc _ _ = Wz
 obtain rfl : v0 = Wz := by rw [← hWz]; exact hW0q.symm
 clear hWz hW0q hW0
 go_wp2_with fail
 refine (sane36_any _ (HT'.out.below hbw.out)).mono ?_
 rintro e w1 ⟨rfl, hst⟩
 replace hBv := Lib.hid (hBv.out.below hst hBv.out.lt)
 replace hBu := Lib.hid (hBu.out.below hst hBu.out.lt)
 replace hV := Lib.hid (hV.out.below hst)
 replace hU := Lib.hid (hU.out.below hst)
 replace hbw := Lib.hid (hbw.out.trans (hst.mono hbw.out.size))
 clear hst
 have y0 := hBv.out.at_ (i := 0) (x := .int .i64 V.pub) rfl
 have y1 := hBv.out.at_ (i := 1) (x := .slice a n c) rfl
 go_wp2_with fail
 clear y0 y1
 obtain ⟨FV, hFV⟩ : ∃ b, Hid (few36 V = b) := ⟨_, rfl⟩
 have hfw := Lib.hid (fun W => few36_any V a n c hlv.out W)
 rw [hFV.out] at hfw
 refine (hfw.out _).mono ?_
 rintro e w2 ⟨rfl, hst⟩
 replace hBv := Lib.hid (hBv.out.below hst hBv.out.lt)
 replace hBu := Lib.hid (hBu.out.below hst hBu.out.lt)
 replace hV := Lib.hid (hV.out.below hst)
 replace hU := Lib.hid (hU.out.below hst)
 replace hbw := Lib.hid (hbw.out.trans (hst.mono hbw.out.size))
 clear hst hfw
 cases FV with
 | false =>
  have hend := Lib.hid (hfin.out _ hbw.out)
  clear hfin
  go_wp2_with fail
  exact hend.out
 | true =>
  have z0 := hBu.out.at_ (i := 0) (x := .int .i64 U.pub) rfl
  have z1 := hBu.out.at_ (i := 1) (x := .slice a2 n2 c2) rfl
  go_wp2_with fail
  clear z0 z1
  obtain ⟨FU, hFU⟩ : ∃ b, Hid (few36 U = b) := ⟨_, rfl⟩
  have hfw := Lib.hid (fun W => few36_any U a2 n2 c2 hlu.out W)
  rw [hFU.out] at hfw
  refine (hfw.out _).mono ?_
  rintro e w3 ⟨rfl, hst⟩
  replace hBv := Lib.hid (hBv.out.below hst hBv.out.lt)
  replace hBu := Lib.hid (hBu.out.below hst hBu.out.lt)
  replace hV := Lib.hid (hV.out.below hst)
  replace hU := Lib.hid (hU.out.below hst)
  replace hbw := Lib.hid (hbw.out.trans (hst.mono hbw.out.size))
  clear hst hfw
  cases FU with
  | false =>
   have hend := Lib.hid (hfin.out _ hbw.out)
   clear hfin
   go_wp2_with fail
   exact hend.out
  | true =>
   have hnb : Hid (n ≤ 100000) := by
    have h := hFV.out
    unfold few36 at h
    rw [hlv.out] at h
    have := of_decide_eq_true h
    show _ ≤ _
    omega
   clear hFV hFU
   have y0 := hBv.out.at_ (i := 0) (x := .int .i64 V.pub) rfl
   have y1 := hBv.out.at_ (i := 1) (x := .slice a n c) rfl
   have z0 := hBu.out.at_ (i := 0) (x := .int .i64 U.pub) rfl
   have z1 := hBu.out.at_ (i := 1) (x := .slice a2 n2 c2) rfl
   go_wp2_with fail
   clear y0 y1 z0 z1
   refine (hgc.out _ (HT'.out.below hbw.out) hV.out hU.out).mono ?_
   rintro e w4 ⟨rfl, hst⟩
   replace hBv := Lib.hid (hBv.out.below hst hBv.out.lt)
   replace hBu := Lib.hid (hBu.out.below hst hBu.out.lt)
   replace hV := Lib.hid (hV.out.below hst)
   replace hU := Lib.hid (hU.out.below hst)
   replace hbw := Lib.hid (hbw.out.trans (hst.mono hbw.out.size))
   clear hst
   obtain ⟨v4, hP⟩ : ∃ V, Hid (PutR 64 (w4.alloc (.cells (spC Go.Dr.zeroS : List Value).toArray 64)) V w4.heap.size 64 (sC)) := put_row (Blk.new w4 64 (spC Go.Dr.zeroS)) hfl.out (hfi.out) (hf1.out)
   have hst := below_grown ((Below.refl _ w4).alloc (Nat.le_refl _) _) hP.out.grown (by simp) (Nat.le_refl _)
   replace hBv := Lib.hid (hBv.out.below hst hBv.out.lt)
   replace hBu := Lib.hid (hBu.out.below hst hBu.out.lt)
   replace hV := Lib.hid (hV.out.below hst)
   replace hU := Lib.hid (hU.out.below hst)
   replace hbw := Lib.hid (hbw.out.trans (hst.mono hbw.out.size))
   clear hst
   have hB7 := Lib.hid hP.out.blk
   obtain ⟨q5, hq5⟩ : ∃ b, Hid (w4.heap.size = b) := ⟨_, rfl⟩
   rw [hq5.out] at hB7
   go_upto_region 6 with (first
    | (refine wpList_store_mid (by rfl) 64 (.tmp 7) (.tmp 25) (by rfl) w4.heap.size 0 (sC).toArray (by rfl) (by rfl) hP.out.there hP.out.info (by simpa using hP.out.one) ?_
       generalize hWq : World.setCells _ _ _ _ = Wa
       obtain rfl : v4 = Wa := by rw [← hWq]; exact hP.out.eq
       clear hWq))
   clear hP
   rw [hq5.out]
   have y0 := hBv.out.at_ (i := 0) (x := .int .i64 V.pub) rfl
   have y1 := hBv.out.at_ (i := 1) (x := .slice a n c) rfl
   have z0 := hBu.out.at_ (i := 0) (x := .int .i64 U.pub) rfl
   have z1 := hBu.out.at_ (i := 1) (x := .slice a2 n2 c2) rfl
   go_wp2_with fail
   clear y0 y1 z0 z1
   refine (hrc.out hnb.out _ hV.out hU.out).mono ?_
   rintro e w5 ⟨rfl, hst⟩
   replace hBv := Lib.hid (hBv.out.below hst hBv.out.lt)
   replace hBu := Lib.hid (hBu.out.below hst hBu.out.lt)
   replace hV := Lib.hid (hV.out.below hst)
   replace hU := Lib.hid (hU.out.below hst)
   replace hB7 := Lib.hid (hB7.out.below hst hB7.out.lt)
   replace hbw := Lib.hid (hbw.out.trans (hst.mono hbw.out.size))
   clear hst
   obtain ⟨v5, hP⟩ : ∃ V, Hid (PutR 64 (w5.alloc (.cells (spC Go.Dr.zeroS : List Value).toArray 64)) V w5.heap.size 64 (sC)) := put_row (Blk.new w5 64 (spC Go.Dr.zeroS)) hfl.out (hfi.out) (hf1.out)
   have hst := below_grown ((Below.refl _ w5).alloc (Nat.le_refl _) _) hP.out.grown (by simp) (Nat.le_refl _)
   replace hBv := Lib.hid (hBv.out.below hst hBv.out.lt)
   replace hBu := Lib.hid (hBu.out.below hst hBu.out.lt)
   replace hV := Lib.hid (hV.out.below hst)
   replace hU := Lib.hid (hU.out.below hst)
   replace hB7 := Lib.hid (hB7.out.below hst hB7.out.lt)
   replace hbw := Lib.hid (hbw.out.trans (hst.mono hbw.out.size))
   clear hst
   have hB9 := Lib.hid hP.out.blk
   obtain ⟨q6, hq6⟩ : ∃ b, Hid (w5.heap.size = b) := ⟨_, rfl⟩
   rw [hq6.out] at hB9
   go_upto_region 7 with (first
    | (refine wpList_store_mid (by rfl) 64 (.tmp 9) (.tmp 31) (by rfl) w5.heap.size 0 (sC).toArray (by rfl) (by rfl) hP.out.there hP.out.info (by simpa using hP.out.one) ?_
       generalize hWq : World.setCells _ _ _ _ = Wa
       obtain rfl : v5 = Wa := by rw [← hWq]; exact hP.out.eq
       clear hWq))
   clear hP
   rw [hq6.out]
   refine wp_region_held_drew (S := fun wz => SgW w b0 q5 q6 (wtC V.pub a n c) sC wz) (by kernel_rfl) (⟨hBv.out, hB7.out, hB9.out, hbw.out.drew⟩) (fun hHeld => ?_)
   have hVd : Hid (WM (fun _ => True) v5.drew V a n c) := hV.out.below (Below.refl _ v5).drew
   have bd : Below v5.drew.heap.size v5.drew v5.drew := Below.refl _ _
   generalize v5.drew = W0 at *
   obtain ⟨WZ, hWZ⟩ : ∃ W, W = W0 := ⟨_, rfl⟩
   rw [← hWZ] at hHeld ⊢
   have bB : Hid (Below W0.heap.size W0 WZ) := by rw [hWZ]; exact Below.refl _ _
   clear hWZ bd
   refine tQ 0 rfl hHeld ?_
   refine tQ 2 rfl hHeld ?_
   refine tO 1 rfl (fun K hK => ?_)
   go_simp
   go_at_call 41
   refine (hnw.out WZ).mono ?_
   rintro e W1 ⟨rfl, hst⟩
   have bBW1 := Lib.hid (bB.out.trans (hst.mono bB.out.size))
   refine hK.out _ _ (hHeld.next hst) (fun hHeld2 => ?_)
   clear hst bB
   have bB := bBW1
   clear bBW1
   clear hHeld
   have hHeld := hHeld2
   clear hHeld2
   clear hK K
   try simp only [Act.put, sA, s0, s1]
   refine tO 3 rfl (fun K hK => ?_)
   go_simp
   go_at_call 42
   refine (hnr.out W1).mono ?_
   rintro e W2 ⟨rfl, hst⟩
   have bBW2 := Lib.hid (bB.out.trans (hst.mono bB.out.size))
   refine hK.out _ _ (hHeld.next hst) (fun hHeld2 => ?_)
   clear hst bB
   have bB := bBW2
   clear bBW2
   clear hHeld
   have hHeld := hHeld2
   clear hHeld2
   clear hK K
   try simp only [Act.put, sA, s0, s1]
   refine tO 4 rfl (fun K hK => ?_)
   go_simp
   go_at_call 40
   refine (hsm.out W2).mono ?_
   rintro e W3 ⟨rfl, hst⟩
   have bBW3 := Lib.hid (bB.out.trans (hst.mono bB.out.size))
   refine hK.out _ _ (hHeld.next hst) (fun hHeld2 => ?_)
   clear hst bB
   have bB := bBW3
   clear bBW3
   clear hHeld
   have hHeld := hHeld2
   clear hHeld2
   clear hK K
   try simp only [Act.put, sA, s0, s1]
   refine tQ 5 rfl hHeld ?_
   refine tX 6 rfl (fun wz hSw => And.intro (hSw.1.at_ (i := 0) (x := .int .i64 V.pub) rfl) (hSw.1.at_ (i := 1) (x := .slice a n c) rfl)) hHeld ?_
   refine tX 8 rfl (fun wz hSw => And.intro (hSw.1.at_ (i := 0) (x := .int .i64 V.pub) rfl) (hSw.1.at_ (i := 1) (x := .slice a n c) rfl)) hHeld ?_
   refine tO 7 rfl (fun K hK => ?_)
   go_simp
   go_at_call 43
   refine (hk1.out W3 (HT'.out.below hHeld.2.2.2) (hVd.out.below bB.out)).mono ?_
   rintro e W4 ⟨rfl, hst⟩
   have bBW4 := Lib.hid (bB.out.trans (hst.mono bB.out.size))
   refine hK.out _ _ (hHeld.next hst) (fun hHeld2 => ?_)
   clear hst bB
   have bB := bBW4
   clear bBW4
   clear hHeld
   have hHeld := hHeld2
   clear hHeld2
   clear hK K
   try simp only [Act.put, sA, s0, s1]
   refine tO 9 rfl (fun K hK => ?_)
   go_simp
   go_at_call 44
   refine (hk2.out W4 (hVd.out.below bB.out)).mono ?_
   rintro e W5 ⟨rfl, hst⟩
   have bBW5 := Lib.hid (bB.out.trans (hst.mono bB.out.size))
   refine hK.out _ _ (hHeld.next hst) (fun hHeld2 => ?_)
   clear hst bB
   have bB := bBW5
   clear bBW5
   clear hHeld
   have hHeld := hHeld2
   clear hHeld2
   clear hK K
   try simp only [Act.put, sA, s0, s1]
   refine tQ 10 rfl hHeld ?_
   refine tQ 11 rfl hHeld ?_
   refine tQ 12 rfl hHeld ?_
   refine tY 13 rfl q5 0 (sC) (fun wz h => h.2.1.range) Tryz.underlying64 hfi.out hHeld ?_
   refine tY 14 rfl q6 0 (sC) (fun wz h => h.2.2.1.range) Tryz.underlying64 hfi.out hHeld ?_
   refine tX 15 rfl (fun wz hSw => heq.out) hHeld ?_
   refine tQ 16 rfl hHeld ?_
   refine tQ 17 rfl hHeld ?_
   refine tQ 18 rfl hHeld ?_
   refine tQ 19 rfl hHeld ?_
   refine tQ 20 rfl hHeld ?_
   refine tQ 21 rfl hHeld ?_
   refine tQ 22 rfl hHeld ?_
   refine wpAnyH_done (by kernel_rfl) ?_ _
   have hend := Lib.hid (hfin.out W5 hHeld.2.2.2)
   clear hHeld hfin
   go_wp2_with fail
   exact hend.out
end Go.Proofs.YtlpgjdlkjahdgaaGreatDoor
namespace Go.Proofs.YtlpgjdlkjahdgaaGreatDoor.lawGSpec
open Go.ChangeShapes Go.WideShapes Go.ChangeAt Go.RowKit Go.Mem
open Go.Proofs.YtlpgjdlkjahdgaaGreatDoor

set_option maxRecDepth 100000 in
theorem lifted (os : Os) (started : os.Started) (H : Type) (enc : TypeId × Value → H) :
 ReturnsInHanded {} Tryz.checked os 7 .any (fun w args => (Rows.gossipSpecSpec.pre enc Tryz.prog Tryz.f7 [] false w args ∧ laidMetH Tryz.prog laid2 w) ∧ sizedMet enc Tryz.prog Tryz.f7 (OpenSpec.ofChange Rows.gossipSpecSpec) false w args)
  (Rows.gossipSpecSpec.post enc Tryz.prog Tryz.f7 false true false false) := by
 refine returnsInHanded_of_change_and (C := Tryz.checked) (X := fun w _ => laidMetH Tryz.prog laid2 w) (fun _ _ _ hh h => h.of_heap hh) own started (by kernel_rfl) Tryz.func7
  (ChangeSpec.witness_shaped (enc := enc) (C := Tryz.checked) (os := os) (X := fun w _ => laidMetH Tryz.prog laid2 w) false (World.doorLaid Tryz.prog 400 os) #[.agg (wtC 0 none 0 0).toArray, .agg (wtC 0 none 0 0).toArray, .int .i64 0] 8 rfl (World.shaped_of_RefB (by kernel_rfl) (by kernel_rfl)) (by kernel_rfl) (by kernel_rfl) (by kernel_rfl) (door_met os _)) ?_
 intro W base args ds gs before hval0 hW _ hwt hL _
 have hval : ∀ (j : Nat) t v, Tryz.f7.params[j]? = some t → args[j]? = some v → Value.okWide Tryz.prog W .any base t v := hval0
 have hW' := hW
 obtain ⟨p, q, hA0, hV, rfl, hfz, hnd⟩ := hW
 have hA : DataW.TrodAll enc Tryz.prog W 0 (fun _ => true) true Tryz.f7.params.toList args.toList ds p := hA0
 rw [Tryz.params7] at hA hval
 obtain ⟨v0, vs0, d0, ds0, p0, q0, hargs, rfl, rfl, h0, r0⟩ := trodAll_cons hA
 obtain ⟨v1, vs1, d1, ds1, p1, q1, rfl, rfl, rfl, h1, r1⟩ := trodAll_cons r0
 obtain ⟨v2, vs2, d2, ds2, p2, q2, rfl, rfl, rfl, h2, r2⟩ := trodAll_cons r1
 obtain ⟨rfl, rfl, rfl⟩ := trodAll_nil r2
 obtain rfl : args = #[v0, v1, v2] := by cases args; simp_all
 obtain ⟨rfl, rfl⟩ := trodVars_none hV
 have lt0 : ∀ x ∈ p0, x.block < W.heap.size := by obtain ⟨m, hm⟩ := h0; exact DataW.trod_lt m _ _ _ hm
 have lt1 : ∀ x ∈ p1, x.block < W.heap.size := by obtain ⟨m, hm⟩ := h1; exact DataW.trod_lt m _ _ _ hm
 have lt2 : ∀ x ∈ p2, x.block < W.heap.size := by obtain ⟨m, hm⟩ := h2; exact DataW.trod_lt m _ _ _ hm
 have k0' := h0
 have k1' := h1
 have k2' := h2
 obtain ⟨cs0, rfl, _⟩ := okWide_struct Tryz.underlying69 (hval 0 69 v0 rfl rfl)
 obtain ⟨m0, hm0⟩ := h0
 obtain ⟨y0, a0, n0, c0, e0, S0⟩ := open_watch (cs := cs0.toList) (by simpa [Value.cells] using hm0)
 obtain rfl : cs0 = (wtC y0.pub a0 n0 c0).toArray := by rw [← e0]
 clear hm0 e0
 obtain ⟨cs1, rfl, _⟩ := okWide_struct Tryz.underlying69 (hval 1 69 v1 rfl rfl)
 obtain ⟨m1, hm1⟩ := h1
 obtain ⟨y1, a1, n1, c1, e1, S1⟩ := open_watch (cs := cs1.toList) (by simpa [Value.cells] using hm1)
 obtain rfl : cs1 = (wtC y1.pub a1 n1 c1).toArray := by rw [← e1]
 clear hm1 e1
 obtain ⟨x2, rfl⟩ := okWide_int Tryz.underlying3 (hval 2 3 v2 rfl rfl)
 obtain ⟨m2, hm2⟩ := h2
 obtain ⟨x2', e2, i2⟩ := open_int1 (cs := [.int .i64 x2]) (by simpa [Value.cells] using hm2)
 obtain rfl : x2 = x2' := by simpa using e2
 clear hm2 e2
 have hT := tabs_of_laid hL
 clear hA0 hval0
 refine (gspec_walk y0 a0 n0 c0 y1 a1 n1 c1 x2 i2 W hT S0 S1).mono fun e W' ⟨he, bel⟩ => ?_
 subst he
 exact ⟨_, rfl, _, _, _, [], _, [], hW', trodAll_mk1 (shut_bool Tryz.underlying4 _),
  (trodAll_cons_mk (Below.trod laidOut (by kernel_rfl) (of_decide_eq_true (by kernel_rfl)) k0' bel lt0) (trodAll_cons_mk (Below.trod laidOut (by kernel_rfl) (of_decide_eq_true (by kernel_rfl)) k1' bel lt1) (trodAll_cons_mk (Below.trod laidOut (by kernel_rfl) (of_decide_eq_true (by kernel_rfl)) k2' bel lt2) trodAll_mk0))), rfl, bel.frame _, fun h => by cases h⟩

theorem over : Rows.GossipSpecSaid :=
 OpenClaim.holds_of_wide 7 Tryz.f7 rfl rfl rfl rfl rfl rfl rfl ⟨rfl, rfl, rfl, rfl, rfl⟩ rfl rfl rfl rfl rfl (by kernel_rfl) Tryz.func7 (by kernel_rfl)
  (of_decide_eq_true (by kernel_rfl)) (by unfold Func.isWrapper; first | (rw [if_pos (by decide +kernel)]; kernel_rfl) | (rw [if_neg (by decide +kernel)]; exact ⟨rfl, rfl⟩))
  (fun os started H enc _ => lifted os started H enc)

theorem proved : Rows.GossipSpecCardSaid :=
 Claim7.holds_tied_plain_at .later [] [.data, .data, .sentinel] true (true, "0e71b2c2558acfe1f4ed3f440e2dab26401bb835ffca5b2d0e5c9d75e6479122") false
  over (fun _ h => by cases h) (by kernel_rfl) (fun _ h => by cases h) gossipSpec_row_tie rfl ⟨rfl, rfl⟩ (by kernel_rfl) rfl
  (fun f fn hf hfn => by
    obtain rfl : f = 7 := Option.some.inj ((show Tryz.prog.funcNamed "chartroom/chartroomlaw36.GossipSpec" = some 7 by kernel_rfl).symm.trans hf) |>.symm
    obtain rfl : fn = Tryz.f7 := (Option.some.inj (Tryz.func7.symm.trans hfn)).symm
    exact ⟨by kernel_rfl, fun j t ht => by
     rw [Tryz.params7] at ht
     have hm : t ∈ [69, 69, 3] := by simpa using Array.mem_of_getElem? ht
     have hall : ([69, 69, 3].all fun u => !Tryz.prog.wantsStandIn u) = true := by kernel_rfl
     exact (show Tryz.prog.wantsStandIn t = false by simpa using List.all_eq_true.1 hall t hm)⟩)
  (by kernel_rfl)
#print axioms proved
end Go.Proofs.YtlpgjdlkjahdgaaGreatDoor.lawGSpec
