/- the law DirectorySetSpec walked -/
import Derived.Test.YthhblcbnnmoojaaGreatDoorRe
import Derived.Test.YthhblcbnnmoojaaGreatDoorFs
import Derived.Test.YthhblcbnnmoojaaGreatDoorCards
import Derived.Test.YthhblcbnnmoojaaGreatDoorTie
import Derived.SevenTiedAt
import Derived.Deep.DeepHandedRow
import Derived.Deep.DeepWitnessRowRef
namespace Go.Proofs.YthhblcbnnmoojaaGreatDoor
open Go.RowKit Go.Mem
open Go.Dr (Lst Rt Dir exL)

def resD (x : Dir × Int) : Dir := if x.2 = 0 then x.1 else Go.Dr.zeroDir
def UniP (x : Dir × Int) (w : World) (e : Ending) (w' : World) : Prop :=
 ∃ la lc ra rc, e = .returned (.tuple #[.agg (dirC (resD x).priv la (resD x).ls.length lc ra (resD x).rs.length rc).toArray, .int .i64 x.2]) ∧ GS (fun _ => True) w' la (resD x).ls.length lc (resD x).ls ∧ QS (fun _ => True) w' ra (resD x).rs.length rc (resD x).rs ∧ Below w.heap.size w w'
theorem uni_zero {x : Dir × Int} {w w' : World} (h : x.2 ≠ 0) (hb : Below w.heap.size w w') : UniP x w (.returned (.tuple #[.agg (dirC 0 none 0 0 none 0 0).toArray, .int .i64 x.2])) w' := by
 have e : resD x = Go.Dr.zeroDir := by unfold resD; rw [if_neg h]
 unfold UniP
 rw [e]
 exact ⟨none, 0, none, 0, rfl, RS.nil0 _ _ _, RS.nil0 _ _ _, hb⟩
theorem uni_set {x : Dir × Int} {w : World} {e : Ending} {w' : World} (h : SetPost x w e w') : UniP x w e w' := by
 rcases h with ⟨h0, la, ln, lc, ra, rn, rc, rfl, hD, hb⟩ | ⟨h1, rfl, hb⟩
 · have e : resD x = x.1 := by unfold resD; rw [if_pos h0]
   unfold UniP
   rw [e, h0, RS.len hD.gs, RS.len hD.qs]
   exact ⟨la, lc, ra, rc, rfl, hD.gs.imp (fun _ _ _ => trivial), hD.qs.imp (fun _ _ _ => trivial), hb⟩
 · exact uni_zero h1 hb
theorem uni_tick {D : Dir} {K : Nat → Prop} {la : Option Addr} {ln lc : Nat} {w : World} {e : Ending} {w' : World} (hg : GS K w la ln lc D.ls) (h : TickPost (Go.Dr.tickD 4 D) la ln lc w e w') : UniP (Go.Dr.tickD 4 D) w e w' := by
 rcases h with ⟨h0, ra, rn, rc, rfl, hQ, hb⟩ | ⟨h1, rfl, hb⟩
 · have e : resD (Go.Dr.tickD 4 D) = (Go.Dr.tickD 4 D).1 := by unfold resD; rw [if_pos h0]
   have el : (Go.Dr.tickD 4 D).1.ls = D.ls := by
    unfold Go.Dr.tickD at h0 ⊢
    split at h0 <;> (try split at h0) <;> (try split at h0) <;> simp_all
   unfold UniP
   rw [e, h0, el, RS.len hg, RS.len hQ]
   exact ⟨la, lc, ra, rc, rfl, (hg.below hb).imp (fun _ _ _ => trivial), hQ.imp (fun _ _ _ => trivial), hb⟩
 · exact uni_zero h1 hb

set_option maxRecDepth 100000 in
set_option maxHeartbeats 16000000 in
theorem setspec_walk (k : Int) (_hk : I64 k) (D : Dir) (la : Option Addr) (ln lc : Nat) (ra : Option Addr) (rn rc : Nat) (x : Lst) (hx : OkG x) (w : World) (HT : Tabs w) (H : DM (fun _ => True) w D la ln lc ra rn rc) :
 Calls Tryz.prog 4 #[.int .i64 k, .agg (dirC D.priv la ln lc ra rn rc).toArray, .agg (gC x).toArray] w (RetBo true w) := by
 have HT' := Lib.hid HT; have hx' := Lib.hid hx
 obtain ⟨X, hX⟩ : ∃ X, X = RetBo true w := ⟨_, rfl⟩
 have hfin : Hid (∀ W, Below w.heap.size w W → X (.returned (.bool true)) W) := fun W hb => by rw [hX]; exact ⟨rfl, hb⟩
 rw [← hX]
 clear hX
 have hpr := Lib.hid H.pr; have hgs0 := Lib.hid H.gs; have hqs0 := Lib.hid H.qs
 have hll := Lib.hid (RS.len H.gs); have hrl := Lib.hid (RS.len H.qs)
 clear H HT hx
 obtain ⟨tb, htb⟩ : ∃ tb, Hid (w.heap.size = tb) := ⟨_, rfl⟩
 have hfew := Lib.hid (fun W => r35few_any D.priv la ln lc ra rn rc W)
 have hnew := Lib.hid (fun W => dnew_any k W)
 have hnew2 := Lib.hid (fun W => r35new_any k W)
 have hset := Lib.hid (fun W (hT : Tabs W) (h : DM (fun _ => True) W D la ln lc ra rn rc) => (set_any (fun _ => True) D la ln lc ra rn rc x hx'.out W hT h).mono (fun e w' h => uni_set h))
 have hset2 := Lib.hid (fun W (hT : Tabs W) (h : DM (fun _ => True) W D la ln lc ra rn rc) => (r35set_any (fun _ => True) D la ln lc ra rn rc x hx'.out W hT h).mono (fun e w' h => uni_set h))
 have htk := Lib.hid (fun W (hT : Tabs W) (h : DM (fun _ => True) W D la ln lc ra rn rc) => (tick_any (fun _ => True) D la ln lc ra rn rc W hT h).mono (fun e w' h' => uni_tick h.gs h'))
 have htk2 := Lib.hid (fun W (hT : Tabs W) (h : DM (fun _ => True) W D la ln lc ra rn rc) => (r35tick_any (fun _ => True) D la ln lc ra rn rc W hT h).mono (fun e w' h' => uni_tick h.gs h'))
 obtain ⟨SD, hSD⟩ : ∃ S, Hid (Go.Dr.setD 4 D x = S) := ⟨_, rfl⟩
 obtain ⟨TD, hTD⟩ : ∃ S, Hid (Go.Dr.tickD 4 D = S) := ⟨_, rfl⟩
 obtain ⟨ND, hND⟩ : ∃ S, Hid (Go.Dr.newD k = S) := ⟨_, rfl⟩
 unfold NewPost at hnew hnew2
 rw [hSD.out] at hset hset2
 rw [hTD.out] at htk htk2
 rw [hND.out] at hnew hnew2
 clear hSD hTD hND
 obtain ⟨rd, hrd⟩ : ∃ r, Hid (dirC D.priv la ln lc ra rn rc = r) := ⟨_, rfl⟩
 obtain ⟨rx, hrx⟩ : ∃ r, Hid (gC x = r) := ⟨_, rfl⟩
 have hird : Hid ((Tryz.prog.info? 34).map (·.size) = some rd.length) := by show _ = _; rw [← hrd.out]; exact sizeDr
 have hirx : Hid ((Tryz.prog.info? 36).map (·.size) = some rx.length) := by show _ = _; rw [← hrx.out]; exact sizeG
 rw [hrd.out] at hfew hset hset2 htk htk2
 rw [hrx.out] at hset hset2
 go_enter Tryz.func4, Tryz.ntmps4
 go_upto_region 1 with fail
 rw [htb.out]
 generalize hW : World.alloc _ _ = W
 rw [hrd.out, hrx.out] at hW ⊢
 have hBd : Hid (Blk W tb 34 rd) := by rw [← hW, ← htb.out]; exact (Blk.new w _ rd).alloc _
 have hBx : Hid (Blk W (tb + 1) 36 rx) := by
  rw [← hW, ← htb.out]
  have := Blk.new (w.alloc (.cells rd.toArray 34)) 36 rx
  rwa [World.size_alloc] at this
 have hb : Hid (Below w.heap.size w W) := by rw [← hW]; exact ((Below.refl _ w).alloc (Nat.le_refl _) _).alloc (by simp) _
 clear hW
 go_wp2_with fail
 refine (sane35_any W (HT'.out.below hb.out)).mono ?_
 rintro e w1 ⟨rfl, hst⟩
 have hBd' := Lib.hid (hBd.out.below hst hBd.out.lt)
 clear hBd
 have hBd := hBd'
 clear hBd'
 have hBx' := Lib.hid (hBx.out.below hst hBx.out.lt)
 clear hBx
 have hBx := hBx'
 clear hBx'
 have hb' := Lib.hid (hb.out.trans (hst.mono hb.out.size))
 clear hb
 have hb := hb'
 clear hb'
 clear hst
 go_wp2_with (first
  | (refine wpList_load_mid (by rfl) 34 (.tmp 4) (by rfl) tb 0 (by rfl) rd _ hBd.out.range Tryz.underlying34 (by rfl) hird.out ?_))
 refine (hfew.out w1).mono ?_
 rintro e w2 ⟨rfl, hst⟩
 have hBd' := Lib.hid (hBd.out.below hst hBd.out.lt)
 clear hBd
 have hBd := hBd'
 clear hBd'
 have hBx' := Lib.hid (hBx.out.below hst hBx.out.lt)
 clear hBx
 have hBx := hBx'
 clear hBx'
 have hb' := Lib.hid (hb.out.trans (hst.mono hb.out.size))
 clear hb
 have hb := hb'
 clear hb'
 clear hst
 by_cases hf : (decide (ln ≤ 20) && decide (rn ≤ 20)) = true
 case neg =>
  have hff : (decide (ln ≤ 20) && decide (rn ≤ 20)) = false := by simpa using hf
  rw [hff]
  have hend := Lib.hid (hfin.out w2 hb.out)
  clear hff hf
  go_wp2_with fail
  exact hend.out
 case pos =>
  rw [hf]
  clear hf hfew
  go_wp2_with fail
  refine (hnew.out w2).mono ?_
  rintro e w3 ⟨rfl, hst⟩
  have hBd' := Lib.hid (hBd.out.below hst hBd.out.lt)
  clear hBd
  have hBd := hBd'
  clear hBd'
  have hBx' := Lib.hid (hBx.out.below hst hBx.out.lt)
  clear hBx
  have hBx := hBx'
  clear hBx'
  have hb' := Lib.hid (hb.out.trans (hst.mono hb.out.size))
  clear hb
  have hb := hb'
  clear hb'
  clear hst
  have b7len0 : ((dirC ND.1.priv none 0 0 none 0 0 : List Value)).length = 3 := rfl
  have b7one0 : ∀ u ∈ (dirC ND.1.priv none 0 0 none 0 0 : List Value), u.oneCell' = true := dr_one _ _ _ _ _ _ _
  obtain ⟨r7, hr7⟩ : ∃ r, Hid (dirC ND.1.priv none 0 0 none 0 0 = r) := ⟨_, rfl⟩
  rw [hr7.out] at b7len0 b7one0 ⊢
  have b7len : r7.length = (dirC 0 none 0 0 none 0 0).length := b7len0
  have b7len3 : r7.length = 3 := b7len0
  have b7one := b7one0
  have hir7 : Hid ((Tryz.prog.info? 34).map (·.size) = some r7.length) := by show _ = _; rw [b7len3]; exact sizeDr
  clear b7len0 b7one0
  have hPb7 := Lib.hid (Put.mk' (ty := 34) (RES := r7) (Blk.new w3 34 (dirC 0 none 0 0 none 0 0)) (b7len) (by rw [b7len3]; exact sizeDr) (b7one))
  obtain ⟨b7, hb7⟩ : ∃ b, Hid (w3.heap.size = b) := ⟨_, rfl⟩
  obtain ⟨w4, hw4⟩ : ∃ W, Hid ((w3.alloc (.cells (dirC 0 none 0 0 none 0 0).toArray 34)).setCells w3.heap.size 0 r7 = W) := ⟨_, rfl⟩
  have hst : Below w3.heap.size w3 w4 := by rw [← hw4.out]; exact below_grown ((Below.refl _ w3).alloc (Nat.le_refl _) _) hPb7.out.grw (by simp) (Nat.le_refl _)
  have hBb7 : Hid (Blk w4 b7 34 r7) := by rw [← hw4.out, ← hb7.out]; exact hPb7.out.blk
  rw [hb7.out] at hPb7 hw4
  have hBd' := Lib.hid (hBd.out.below hst hBd.out.lt)
  clear hBd
  have hBd := hBd'
  clear hBd'
  have hBx' := Lib.hid (hBx.out.below hst hBx.out.lt)
  clear hBx
  have hBx := hBx'
  clear hBx'
  have hb' := Lib.hid (hb.out.trans (hst.mono hb.out.size))
  clear hb
  have hb := hb'
  clear hb'
  clear hst
  clear b7len b7len3 b7one
  go_wp2_with (first
   | (rw [hb7.out]; refine wpList_store_mid (by rfl) 34 (.tmp 7) (.tmp 27) (by rfl) b7 0 r7.toArray (by rfl) (by rfl) hPb7.out.th hPb7.out.inf hPb7.out.one ?_; generalize hWq : World.setCells _ _ _ _ = Wq; obtain rfl : w4 = Wq := by { rw [← hWq]; exact hw4.out.symm }; clear hWq))
  refine (hnew2.out w4).mono ?_
  rintro e w5 ⟨rfl, hst⟩
  rw [hr7.out]
  have hBd' := Lib.hid (hBd.out.below hst hBd.out.lt)
  clear hBd
  have hBd := hBd'
  clear hBd'
  have hBx' := Lib.hid (hBx.out.below hst hBx.out.lt)
  clear hBx
  have hBx := hBx'
  clear hBx'
  have hb' := Lib.hid (hb.out.trans (hst.mono hb.out.size))
  clear hb
  have hb := hb'
  clear hb'
  have hBb7' := Lib.hid (hBb7.out.below hst hBb7.out.lt)
  clear hBb7
  have hBb7 := hBb7'
  clear hBb7'
  clear hst
  have b9len : r7.length = (dirC 0 none 0 0 none 0 0).length := by rw [← hr7.out]; rfl
  have b9len3 : r7.length = 3 := by rw [← hr7.out]; rfl
  have b9one : ∀ u ∈ r7, u.oneCell' = true := by rw [← hr7.out]; exact dr_one _ _ _ _ _ _ _
  have hPb9 := Lib.hid (Put.mk' (ty := 34) (RES := r7) (Blk.new w5 34 (dirC 0 none 0 0 none 0 0)) (b9len) (by rw [b9len3]; exact sizeDr) (b9one))
  obtain ⟨b9, hb9⟩ : ∃ b, Hid (w5.heap.size = b) := ⟨_, rfl⟩
  obtain ⟨w6, hw6⟩ : ∃ W, Hid ((w5.alloc (.cells (dirC 0 none 0 0 none 0 0).toArray 34)).setCells w5.heap.size 0 r7 = W) := ⟨_, rfl⟩
  have hst : Below w5.heap.size w5 w6 := by rw [← hw6.out]; exact below_grown ((Below.refl _ w5).alloc (Nat.le_refl _) _) hPb9.out.grw (by simp) (Nat.le_refl _)
  have hBb9 : Hid (Blk w6 b9 34 r7) := by rw [← hw6.out, ← hb9.out]; exact hPb9.out.blk
  rw [hb9.out] at hPb9 hw6
  have hBd' := Lib.hid (hBd.out.below hst hBd.out.lt)
  clear hBd
  have hBd := hBd'
  clear hBd'
  have hBx' := Lib.hid (hBx.out.below hst hBx.out.lt)
  clear hBx
  have hBx := hBx'
  clear hBx'
  have hb' := Lib.hid (hb.out.trans (hst.mono hb.out.size))
  clear hb
  have hb := hb'
  clear hb'
  have hBb7' := Lib.hid (hBb7.out.below hst hBb7.out.lt)
  clear hBb7
  have hBb7 := hBb7'
  clear hBb7'
  clear hst
  clear b9len b9len3 b9one
  go_wp2_with (first
   | (rw [hb9.out]; refine wpList_store_mid (by rfl) 34 (.tmp 9) (.tmp 32) (by rfl) b9 0 r7.toArray (by rfl) (by rfl) hPb9.out.th hPb9.out.inf hPb9.out.one ?_; generalize hWq : World.setCells _ _ _ _ = Wq; obtain rfl : w6 = Wq := by { rw [← hWq]; exact hw6.out.symm }; clear hWq)
    | (refine wpList_load_mid (by rfl) 34 (.tmp 4) (by rfl) tb 0 (by rfl) rd _ hBd.out.range Tryz.underlying34 (by rfl) hird.out ?_)
    | (refine wpList_load_mid (by rfl) 36 (.tmp 5) (by rfl) (tb + 1) 0 (by rfl) rx _ hBx.out.range Tryz.underlying36 (by rfl) hirx.out ?_))
  refine (hset.out w6 (HT'.out.below hb.out) ⟨hpr.out, hgs0.out.below hb.out, hqs0.out.below hb.out⟩).mono ?_
  rintro e w7 ⟨la1, lc1, ra1, rc1, rfl, hg10, hq10, hst⟩
  have hBd' := Lib.hid (hBd.out.below hst hBd.out.lt)
  clear hBd
  have hBd := hBd'
  clear hBd'
  have hBx' := Lib.hid (hBx.out.below hst hBx.out.lt)
  clear hBx
  have hBx := hBx'
  clear hBx'
  have hb' := Lib.hid (hb.out.trans (hst.mono hb.out.size))
  clear hb
  have hb := hb'
  clear hb'
  have hBb7' := Lib.hid (hBb7.out.below hst hBb7.out.lt)
  clear hBb7
  have hBb7 := hBb7'
  clear hBb7'
  have hBb9' := Lib.hid (hBb9.out.below hst hBb9.out.lt)
  clear hBb9
  have hBb9 := hBb9'
  clear hBb9'
  clear hst
  have hg1 := Lib.hid hg10; have hq1 := Lib.hid hq10
  clear hg10 hq10
  have c1len0 : ((dirC (resD SD).priv la1 (resD SD).ls.length lc1 ra1 (resD SD).rs.length rc1 : List Value)).length = 3 := rfl
  have c1one0 : ∀ u ∈ (dirC (resD SD).priv la1 (resD SD).ls.length lc1 ra1 (resD SD).rs.length rc1 : List Value), u.oneCell' = true := dr_one _ _ _ _ _ _ _
  obtain ⟨s1, hs1⟩ : ∃ r, Hid (dirC (resD SD).priv la1 (resD SD).ls.length lc1 ra1 (resD SD).rs.length rc1 = r) := ⟨_, rfl⟩
  rw [hs1.out] at c1len0 c1one0 ⊢
  have c1len : s1.length = (dirC 0 none 0 0 none 0 0).length := c1len0
  have c1len3 : s1.length = 3 := c1len0
  have c1one := c1one0
  have his1 : Hid ((Tryz.prog.info? 34).map (·.size) = some s1.length) := by show _ = _; rw [c1len3]; exact sizeDr
  clear c1len0 c1one0
  have hPc1 := Lib.hid (Put.mk' (ty := 34) (RES := s1) (Blk.new w7 34 (dirC 0 none 0 0 none 0 0)) (c1len) (by rw [c1len3]; exact sizeDr) (c1one))
  obtain ⟨c1, hc1⟩ : ∃ b, Hid (w7.heap.size = b) := ⟨_, rfl⟩
  obtain ⟨w8, hw8⟩ : ∃ W, Hid ((w7.alloc (.cells (dirC 0 none 0 0 none 0 0).toArray 34)).setCells w7.heap.size 0 s1 = W) := ⟨_, rfl⟩
  have hst : Below w7.heap.size w7 w8 := by rw [← hw8.out]; exact below_grown ((Below.refl _ w7).alloc (Nat.le_refl _) _) hPc1.out.grw (by simp) (Nat.le_refl _)
  have hBc1 : Hid (Blk w8 c1 34 s1) := by rw [← hw8.out, ← hc1.out]; exact hPc1.out.blk
  rw [hc1.out] at hPc1 hw8
  have hBd' := Lib.hid (hBd.out.below hst hBd.out.lt)
  clear hBd
  have hBd := hBd'
  clear hBd'
  have hBx' := Lib.hid (hBx.out.below hst hBx.out.lt)
  clear hBx
  have hBx := hBx'
  clear hBx'
  have hb' := Lib.hid (hb.out.trans (hst.mono hb.out.size))
  clear hb
  have hb := hb'
  clear hb'
  have hBb7' := Lib.hid (hBb7.out.below hst hBb7.out.lt)
  clear hBb7
  have hBb7 := hBb7'
  clear hBb7'
  have hBb9' := Lib.hid (hBb9.out.below hst hBb9.out.lt)
  clear hBb9
  have hBb9 := hBb9'
  clear hBb9'
  have hg1' := Lib.hid (hg1.out.below hst)
  clear hg1
  have hg1 := hg1'
  clear hg1'
  have hq1' := Lib.hid (hq1.out.below hst)
  clear hq1
  have hq1 := hq1'
  clear hq1'
  clear hst
  clear c1len c1len3 c1one
  go_wp2_with (first
   | (rw [hc1.out]; refine wpList_store_mid (by rfl) 34 (.tmp 11) (.tmp 38) (by rfl) c1 0 s1.toArray (by rfl) (by rfl) hPc1.out.th hPc1.out.inf hPc1.out.one ?_; generalize hWq : World.setCells _ _ _ _ = Wq; obtain rfl : w8 = Wq := by { rw [← hWq]; exact hw8.out.symm }; clear hWq)
    | (refine wpList_load_mid (by rfl) 34 (.tmp 4) (by rfl) tb 0 (by rfl) rd _ hBd.out.range Tryz.underlying34 (by rfl) hird.out ?_)
    | (refine wpList_load_mid (by rfl) 36 (.tmp 5) (by rfl) (tb + 1) 0 (by rfl) rx _ hBx.out.range Tryz.underlying36 (by rfl) hirx.out ?_))
  refine (hset2.out w8 (HT'.out.below hb.out) ⟨hpr.out, hgs0.out.below hb.out, hqs0.out.below hb.out⟩).mono ?_
  rintro e w9 ⟨la2, lc2, ra2, rc2, rfl, hg20, hq20, hst⟩
  have hBd' := Lib.hid (hBd.out.below hst hBd.out.lt)
  clear hBd
  have hBd := hBd'
  clear hBd'
  have hBx' := Lib.hid (hBx.out.below hst hBx.out.lt)
  clear hBx
  have hBx := hBx'
  clear hBx'
  have hb' := Lib.hid (hb.out.trans (hst.mono hb.out.size))
  clear hb
  have hb := hb'
  clear hb'
  have hBb7' := Lib.hid (hBb7.out.below hst hBb7.out.lt)
  clear hBb7
  have hBb7 := hBb7'
  clear hBb7'
  have hBb9' := Lib.hid (hBb9.out.below hst hBb9.out.lt)
  clear hBb9
  have hBb9 := hBb9'
  clear hBb9'
  have hg1' := Lib.hid (hg1.out.below hst)
  clear hg1
  have hg1 := hg1'
  clear hg1'
  have hq1' := Lib.hid (hq1.out.below hst)
  clear hq1
  have hq1 := hq1'
  clear hq1'
  have hBc1' := Lib.hid (hBc1.out.below hst hBc1.out.lt)
  clear hBc1
  have hBc1 := hBc1'
  clear hBc1'
  clear hst
  have hg2 := Lib.hid hg20; have hq2 := Lib.hid hq20
  clear hg20 hq20
  have c2len0 : ((dirC (resD SD).priv la2 (resD SD).ls.length lc2 ra2 (resD SD).rs.length rc2 : List Value)).length = 3 := rfl
  have c2one0 : ∀ u ∈ (dirC (resD SD).priv la2 (resD SD).ls.length lc2 ra2 (resD SD).rs.length rc2 : List Value), u.oneCell' = true := dr_one _ _ _ _ _ _ _
  obtain ⟨s2, hs2⟩ : ∃ r, Hid (dirC (resD SD).priv la2 (resD SD).ls.length lc2 ra2 (resD SD).rs.length rc2 = r) := ⟨_, rfl⟩
  rw [hs2.out] at c2len0 c2one0 ⊢
  have c2len : s2.length = (dirC 0 none 0 0 none 0 0).length := c2len0
  have c2len3 : s2.length = 3 := c2len0
  have c2one := c2one0
  have his2 : Hid ((Tryz.prog.info? 34).map (·.size) = some s2.length) := by show _ = _; rw [c2len3]; exact sizeDr
  clear c2len0 c2one0
  have hPc2 := Lib.hid (Put.mk' (ty := 34) (RES := s2) (Blk.new w9 34 (dirC 0 none 0 0 none 0 0)) (c2len) (by rw [c2len3]; exact sizeDr) (c2one))
  obtain ⟨c2, hc2⟩ : ∃ b, Hid (w9.heap.size = b) := ⟨_, rfl⟩
  obtain ⟨wa, hwa⟩ : ∃ W, Hid ((w9.alloc (.cells (dirC 0 none 0 0 none 0 0).toArray 34)).setCells w9.heap.size 0 s2 = W) := ⟨_, rfl⟩
  have hst : Below w9.heap.size w9 wa := by rw [← hwa.out]; exact below_grown ((Below.refl _ w9).alloc (Nat.le_refl _) _) hPc2.out.grw (by simp) (Nat.le_refl _)
  have hBc2 : Hid (Blk wa c2 34 s2) := by rw [← hwa.out, ← hc2.out]; exact hPc2.out.blk
  rw [hc2.out] at hPc2 hwa
  have hBd' := Lib.hid (hBd.out.below hst hBd.out.lt)
  clear hBd
  have hBd := hBd'
  clear hBd'
  have hBx' := Lib.hid (hBx.out.below hst hBx.out.lt)
  clear hBx
  have hBx := hBx'
  clear hBx'
  have hb' := Lib.hid (hb.out.trans (hst.mono hb.out.size))
  clear hb
  have hb := hb'
  clear hb'
  have hBb7' := Lib.hid (hBb7.out.below hst hBb7.out.lt)
  clear hBb7
  have hBb7 := hBb7'
  clear hBb7'
  have hBb9' := Lib.hid (hBb9.out.below hst hBb9.out.lt)
  clear hBb9
  have hBb9 := hBb9'
  clear hBb9'
  have hg1' := Lib.hid (hg1.out.below hst)
  clear hg1
  have hg1 := hg1'
  clear hg1'
  have hq1' := Lib.hid (hq1.out.below hst)
  clear hq1
  have hq1 := hq1'
  clear hq1'
  have hBc1' := Lib.hid (hBc1.out.below hst hBc1.out.lt)
  clear hBc1
  have hBc1 := hBc1'
  clear hBc1'
  have hg2' := Lib.hid (hg2.out.below hst)
  clear hg2
  have hg2 := hg2'
  clear hg2'
  have hq2' := Lib.hid (hq2.out.below hst)
  clear hq2
  have hq2 := hq2'
  clear hq2'
  clear hst
  clear c2len c2len3 c2one
  go_wp2_with (first
   | (rw [hc2.out]; refine wpList_store_mid (by rfl) 34 (.tmp 13) (.tmp 44) (by rfl) c2 0 s2.toArray (by rfl) (by rfl) hPc2.out.th hPc2.out.inf hPc2.out.one ?_; generalize hWq : World.setCells _ _ _ _ = Wq; obtain rfl : wa = Wq := by { rw [← hWq]; exact hwa.out.symm }; clear hWq)
    | (refine wpList_load_mid (by rfl) 34 (.tmp 4) (by rfl) tb 0 (by rfl) rd _ hBd.out.range Tryz.underlying34 (by rfl) hird.out ?_))
  refine (htk.out wa (HT'.out.below hb.out) ⟨hpr.out, hgs0.out.below hb.out, hqs0.out.below hb.out⟩).mono ?_
  rintro e wb ⟨la3, lc3, ra3, rc3, rfl, hg30, hq30, hst⟩
  have hBd' := Lib.hid (hBd.out.below hst hBd.out.lt)
  clear hBd
  have hBd := hBd'
  clear hBd'
  have hBx' := Lib.hid (hBx.out.below hst hBx.out.lt)
  clear hBx
  have hBx := hBx'
  clear hBx'
  have hb' := Lib.hid (hb.out.trans (hst.mono hb.out.size))
  clear hb
  have hb := hb'
  clear hb'
  have hBb7' := Lib.hid (hBb7.out.below hst hBb7.out.lt)
  clear hBb7
  have hBb7 := hBb7'
  clear hBb7'
  have hBb9' := Lib.hid (hBb9.out.below hst hBb9.out.lt)
  clear hBb9
  have hBb9 := hBb9'
  clear hBb9'
  have hg1' := Lib.hid (hg1.out.below hst)
  clear hg1
  have hg1 := hg1'
  clear hg1'
  have hq1' := Lib.hid (hq1.out.below hst)
  clear hq1
  have hq1 := hq1'
  clear hq1'
  have hBc1' := Lib.hid (hBc1.out.below hst hBc1.out.lt)
  clear hBc1
  have hBc1 := hBc1'
  clear hBc1'
  have hg2' := Lib.hid (hg2.out.below hst)
  clear hg2
  have hg2 := hg2'
  clear hg2'
  have hq2' := Lib.hid (hq2.out.below hst)
  clear hq2
  have hq2 := hq2'
  clear hq2'
  have hBc2' := Lib.hid (hBc2.out.below hst hBc2.out.lt)
  clear hBc2
  have hBc2 := hBc2'
  clear hBc2'
  clear hst
  have hg3 := Lib.hid hg30; have hq3 := Lib.hid hq30
  clear hg30 hq30
  have c3len0 : ((dirC (resD TD).priv la3 (resD TD).ls.length lc3 ra3 (resD TD).rs.length rc3 : List Value)).length = 3 := rfl
  have c3one0 : ∀ u ∈ (dirC (resD TD).priv la3 (resD TD).ls.length lc3 ra3 (resD TD).rs.length rc3 : List Value), u.oneCell' = true := dr_one _ _ _ _ _ _ _
  obtain ⟨s3, hs3⟩ : ∃ r, Hid (dirC (resD TD).priv la3 (resD TD).ls.length lc3 ra3 (resD TD).rs.length rc3 = r) := ⟨_, rfl⟩
  rw [hs3.out] at c3len0 c3one0 ⊢
  have c3len : s3.length = (dirC 0 none 0 0 none 0 0).length := c3len0
  have c3len3 : s3.length = 3 := c3len0
  have c3one := c3one0
  have his3 : Hid ((Tryz.prog.info? 34).map (·.size) = some s3.length) := by show _ = _; rw [c3len3]; exact sizeDr
  clear c3len0 c3one0
  have hPc3 := Lib.hid (Put.mk' (ty := 34) (RES := s3) (Blk.new wb 34 (dirC 0 none 0 0 none 0 0)) (c3len) (by rw [c3len3]; exact sizeDr) (c3one))
  obtain ⟨c3, hc3⟩ : ∃ b, Hid (wb.heap.size = b) := ⟨_, rfl⟩
  obtain ⟨wc, hwc⟩ : ∃ W, Hid ((wb.alloc (.cells (dirC 0 none 0 0 none 0 0).toArray 34)).setCells wb.heap.size 0 s3 = W) := ⟨_, rfl⟩
  have hst : Below wb.heap.size wb wc := by rw [← hwc.out]; exact below_grown ((Below.refl _ wb).alloc (Nat.le_refl _) _) hPc3.out.grw (by simp) (Nat.le_refl _)
  have hBc3 : Hid (Blk wc c3 34 s3) := by rw [← hwc.out, ← hc3.out]; exact hPc3.out.blk
  rw [hc3.out] at hPc3 hwc
  have hBd' := Lib.hid (hBd.out.below hst hBd.out.lt)
  clear hBd
  have hBd := hBd'
  clear hBd'
  have hBx' := Lib.hid (hBx.out.below hst hBx.out.lt)
  clear hBx
  have hBx := hBx'
  clear hBx'
  have hb' := Lib.hid (hb.out.trans (hst.mono hb.out.size))
  clear hb
  have hb := hb'
  clear hb'
  have hBb7' := Lib.hid (hBb7.out.below hst hBb7.out.lt)
  clear hBb7
  have hBb7 := hBb7'
  clear hBb7'
  have hBb9' := Lib.hid (hBb9.out.below hst hBb9.out.lt)
  clear hBb9
  have hBb9 := hBb9'
  clear hBb9'
  have hg1' := Lib.hid (hg1.out.below hst)
  clear hg1
  have hg1 := hg1'
  clear hg1'
  have hq1' := Lib.hid (hq1.out.below hst)
  clear hq1
  have hq1 := hq1'
  clear hq1'
  have hBc1' := Lib.hid (hBc1.out.below hst hBc1.out.lt)
  clear hBc1
  have hBc1 := hBc1'
  clear hBc1'
  have hg2' := Lib.hid (hg2.out.below hst)
  clear hg2
  have hg2 := hg2'
  clear hg2'
  have hq2' := Lib.hid (hq2.out.below hst)
  clear hq2
  have hq2 := hq2'
  clear hq2'
  have hBc2' := Lib.hid (hBc2.out.below hst hBc2.out.lt)
  clear hBc2
  have hBc2 := hBc2'
  clear hBc2'
  have hg3' := Lib.hid (hg3.out.below hst)
  clear hg3
  have hg3 := hg3'
  clear hg3'
  have hq3' := Lib.hid (hq3.out.below hst)
  clear hq3
  have hq3 := hq3'
  clear hq3'
  clear hst
  clear c3len c3len3 c3one
  go_wp2_with (first
   | (rw [hc3.out]; refine wpList_store_mid (by rfl) 34 (.tmp 15) (.tmp 49) (by rfl) c3 0 s3.toArray (by rfl) (by rfl) hPc3.out.th hPc3.out.inf hPc3.out.one ?_; generalize hWq : World.setCells _ _ _ _ = Wq; obtain rfl : wc = Wq := by { rw [← hWq]; exact hwc.out.symm }; clear hWq)
    | (refine wpList_load_mid (by rfl) 34 (.tmp 4) (by rfl) tb 0 (by rfl) rd _ hBd.out.range Tryz.underlying34 (by rfl) hird.out ?_))
  refine (htk2.out wc (HT'.out.below hb.out) ⟨hpr.out, hgs0.out.below hb.out, hqs0.out.below hb.out⟩).mono ?_
  rintro e wd ⟨la4, lc4, ra4, rc4, rfl, hg40, hq40, hst⟩
  have hBd' := Lib.hid (hBd.out.below hst hBd.out.lt)
  clear hBd
  have hBd := hBd'
  clear hBd'
  have hBx' := Lib.hid (hBx.out.below hst hBx.out.lt)
  clear hBx
  have hBx := hBx'
  clear hBx'
  have hb' := Lib.hid (hb.out.trans (hst.mono hb.out.size))
  clear hb
  have hb := hb'
  clear hb'
  have hBb7' := Lib.hid (hBb7.out.below hst hBb7.out.lt)
  clear hBb7
  have hBb7 := hBb7'
  clear hBb7'
  have hBb9' := Lib.hid (hBb9.out.below hst hBb9.out.lt)
  clear hBb9
  have hBb9 := hBb9'
  clear hBb9'
  have hg1' := Lib.hid (hg1.out.below hst)
  clear hg1
  have hg1 := hg1'
  clear hg1'
  have hq1' := Lib.hid (hq1.out.below hst)
  clear hq1
  have hq1 := hq1'
  clear hq1'
  have hBc1' := Lib.hid (hBc1.out.below hst hBc1.out.lt)
  clear hBc1
  have hBc1 := hBc1'
  clear hBc1'
  have hg2' := Lib.hid (hg2.out.below hst)
  clear hg2
  have hg2 := hg2'
  clear hg2'
  have hq2' := Lib.hid (hq2.out.below hst)
  clear hq2
  have hq2 := hq2'
  clear hq2'
  have hBc2' := Lib.hid (hBc2.out.below hst hBc2.out.lt)
  clear hBc2
  have hBc2 := hBc2'
  clear hBc2'
  have hg3' := Lib.hid (hg3.out.below hst)
  clear hg3
  have hg3 := hg3'
  clear hg3'
  have hq3' := Lib.hid (hq3.out.below hst)
  clear hq3
  have hq3 := hq3'
  clear hq3'
  have hBc3' := Lib.hid (hBc3.out.below hst hBc3.out.lt)
  clear hBc3
  have hBc3 := hBc3'
  clear hBc3'
  clear hst
  have hg4 := Lib.hid hg40; have hq4 := Lib.hid hq40
  clear hg40 hq40
  have c4len0 : ((dirC (resD TD).priv la4 (resD TD).ls.length lc4 ra4 (resD TD).rs.length rc4 : List Value)).length = 3 := rfl
  have c4one0 : ∀ u ∈ (dirC (resD TD).priv la4 (resD TD).ls.length lc4 ra4 (resD TD).rs.length rc4 : List Value), u.oneCell' = true := dr_one _ _ _ _ _ _ _
  obtain ⟨s4, hs4⟩ : ∃ r, Hid (dirC (resD TD).priv la4 (resD TD).ls.length lc4 ra4 (resD TD).rs.length rc4 = r) := ⟨_, rfl⟩
  rw [hs4.out] at c4len0 c4one0 ⊢
  have c4len : s4.length = (dirC 0 none 0 0 none 0 0).length := c4len0
  have c4len3 : s4.length = 3 := c4len0
  have c4one := c4one0
  have his4 : Hid ((Tryz.prog.info? 34).map (·.size) = some s4.length) := by show _ = _; rw [c4len3]; exact sizeDr
  clear c4len0 c4one0
  have hPc4 := Lib.hid (Put.mk' (ty := 34) (RES := s4) (Blk.new wd 34 (dirC 0 none 0 0 none 0 0)) (c4len) (by rw [c4len3]; exact sizeDr) (c4one))
  obtain ⟨c4, hc4⟩ : ∃ b, Hid (wd.heap.size = b) := ⟨_, rfl⟩
  obtain ⟨we, hwe⟩ : ∃ W, Hid ((wd.alloc (.cells (dirC 0 none 0 0 none 0 0).toArray 34)).setCells wd.heap.size 0 s4 = W) := ⟨_, rfl⟩
  have hst : Below wd.heap.size wd we := by rw [← hwe.out]; exact below_grown ((Below.refl _ wd).alloc (Nat.le_refl _) _) hPc4.out.grw (by simp) (Nat.le_refl _)
  have hBc4 : Hid (Blk we c4 34 s4) := by rw [← hwe.out, ← hc4.out]; exact hPc4.out.blk
  rw [hc4.out] at hPc4 hwe
  have hBd' := Lib.hid (hBd.out.below hst hBd.out.lt)
  clear hBd
  have hBd := hBd'
  clear hBd'
  have hBx' := Lib.hid (hBx.out.below hst hBx.out.lt)
  clear hBx
  have hBx := hBx'
  clear hBx'
  have hb' := Lib.hid (hb.out.trans (hst.mono hb.out.size))
  clear hb
  have hb := hb'
  clear hb'
  have hBb7' := Lib.hid (hBb7.out.below hst hBb7.out.lt)
  clear hBb7
  have hBb7 := hBb7'
  clear hBb7'
  have hBb9' := Lib.hid (hBb9.out.below hst hBb9.out.lt)
  clear hBb9
  have hBb9 := hBb9'
  clear hBb9'
  have hg1' := Lib.hid (hg1.out.below hst)
  clear hg1
  have hg1 := hg1'
  clear hg1'
  have hq1' := Lib.hid (hq1.out.below hst)
  clear hq1
  have hq1 := hq1'
  clear hq1'
  have hBc1' := Lib.hid (hBc1.out.below hst hBc1.out.lt)
  clear hBc1
  have hBc1 := hBc1'
  clear hBc1'
  have hg2' := Lib.hid (hg2.out.below hst)
  clear hg2
  have hg2 := hg2'
  clear hg2'
  have hq2' := Lib.hid (hq2.out.below hst)
  clear hq2
  have hq2 := hq2'
  clear hq2'
  have hBc2' := Lib.hid (hBc2.out.below hst hBc2.out.lt)
  clear hBc2
  have hBc2 := hBc2'
  clear hBc2'
  have hg3' := Lib.hid (hg3.out.below hst)
  clear hg3
  have hg3 := hg3'
  clear hg3'
  have hq3' := Lib.hid (hq3.out.below hst)
  clear hq3
  have hq3 := hq3'
  clear hq3'
  have hBc3' := Lib.hid (hBc3.out.below hst hBc3.out.lt)
  clear hBc3
  have hBc3 := hBc3'
  clear hBc3'
  have hg4' := Lib.hid (hg4.out.below hst)
  clear hg4
  have hg4 := hg4'
  clear hg4'
  have hq4' := Lib.hid (hq4.out.below hst)
  clear hq4
  have hq4 := hq4'
  clear hq4'
  clear hst
  clear c4len c4len3 c4one
  have hsm1 := Lib.hid (fun W => r35same_any (fun _ => True) (fun _ => True) (fun _ => True) (fun _ => True) ⟨ND.1.priv, [], []⟩ none 0 0 none 0 0 none 0 none 0 W (RS.nil0 _ _ _) (RS.nil0 _ _ _) (RS.nil0 _ _ _) (RS.nil0 _ _ _))
  rw [hr7.out] at hsm1
  clear hset hset2 htk htk2 hnew hnew2
  go_wp2_with (first
   | (rw [hc4.out]; refine wpList_store_mid (by rfl) 34 (.tmp 17) (.tmp 54) (by rfl) c4 0 s4.toArray (by rfl) (by rfl) hPc4.out.th hPc4.out.inf hPc4.out.one ?_; generalize hWq : World.setCells _ _ _ _ = Wq; obtain rfl : we = Wq := by { rw [← hWq]; exact hwe.out.symm }; clear hWq)
    | (refine wpList_load_mid (by rfl) 34 (.tmp 7) (by rfl) b7 0 (by rfl) r7 _ hBb7.out.range Tryz.underlying34 (by rfl) hir7.out ?_)
    | (refine wpList_load_mid (by rfl) 34 (.tmp 9) (by rfl) b9 0 (by rfl) r7 _ hBb9.out.range Tryz.underlying34 (by rfl) hir7.out ?_))
  refine (hsm1.out we).mono ?_
  rintro e wf ⟨rfl, hst⟩
  have hBd' := Lib.hid (hBd.out.below hst hBd.out.lt)
  clear hBd
  have hBd := hBd'
  clear hBd'
  have hBx' := Lib.hid (hBx.out.below hst hBx.out.lt)
  clear hBx
  have hBx := hBx'
  clear hBx'
  have hb' := Lib.hid (hb.out.trans (hst.mono hb.out.size))
  clear hb
  have hb := hb'
  clear hb'
  have hBb7' := Lib.hid (hBb7.out.below hst hBb7.out.lt)
  clear hBb7
  have hBb7 := hBb7'
  clear hBb7'
  have hBb9' := Lib.hid (hBb9.out.below hst hBb9.out.lt)
  clear hBb9
  have hBb9 := hBb9'
  clear hBb9'
  have hg1' := Lib.hid (hg1.out.below hst)
  clear hg1
  have hg1 := hg1'
  clear hg1'
  have hq1' := Lib.hid (hq1.out.below hst)
  clear hq1
  have hq1 := hq1'
  clear hq1'
  have hBc1' := Lib.hid (hBc1.out.below hst hBc1.out.lt)
  clear hBc1
  have hBc1 := hBc1'
  clear hBc1'
  have hg2' := Lib.hid (hg2.out.below hst)
  clear hg2
  have hg2 := hg2'
  clear hg2'
  have hq2' := Lib.hid (hq2.out.below hst)
  clear hq2
  have hq2 := hq2'
  clear hq2'
  have hBc2' := Lib.hid (hBc2.out.below hst hBc2.out.lt)
  clear hBc2
  have hBc2 := hBc2'
  clear hBc2'
  have hg3' := Lib.hid (hg3.out.below hst)
  clear hg3
  have hg3 := hg3'
  clear hg3'
  have hq3' := Lib.hid (hq3.out.below hst)
  clear hq3
  have hq3 := hq3'
  clear hq3'
  have hBc3' := Lib.hid (hBc3.out.below hst hBc3.out.lt)
  clear hBc3
  have hBc3 := hBc3'
  clear hBc3'
  have hg4' := Lib.hid (hg4.out.below hst)
  clear hg4
  have hg4 := hg4'
  clear hg4'
  have hq4' := Lib.hid (hq4.out.below hst)
  clear hq4
  have hq4 := hq4'
  clear hq4'
  have hBc4' := Lib.hid (hBc4.out.below hst hBc4.out.lt)
  clear hBc4
  have hBc4 := hBc4'
  clear hBc4'
  clear hst
  have hsm := Lib.hid (r35same_any (fun _ => True) (fun _ => True) (fun _ => True) (fun _ => True) (resD SD) la1 (resD SD).ls.length lc1 ra1 (resD SD).rs.length rc1 la2 lc2 ra2 rc2 wf hg1.out hq1.out hg2.out hq2.out)
  rw [hs1.out, hs2.out] at hsm
  go_wp2_with (first
   | (refine wpList_load_gd (by rfl) 34 (.tmp 11) (by rfl) c1 0 (by rfl) s1 _ hBc1.out.range Tryz.underlying34 (by rfl) his1.out ?_)
    | (refine wpList_load_gd (by rfl) 34 (.tmp 13) (by rfl) c2 0 (by rfl) s2 _ hBc2.out.range Tryz.underlying34 (by rfl) his2.out ?_))
  refine (hsm.out).mono ?_
  rintro e wg ⟨rfl, hst⟩
  have hBd' := Lib.hid (hBd.out.below hst hBd.out.lt)
  clear hBd
  have hBd := hBd'
  clear hBd'
  have hBx' := Lib.hid (hBx.out.below hst hBx.out.lt)
  clear hBx
  have hBx := hBx'
  clear hBx'
  have hb' := Lib.hid (hb.out.trans (hst.mono hb.out.size))
  clear hb
  have hb := hb'
  clear hb'
  have hBb7' := Lib.hid (hBb7.out.below hst hBb7.out.lt)
  clear hBb7
  have hBb7 := hBb7'
  clear hBb7'
  have hBb9' := Lib.hid (hBb9.out.below hst hBb9.out.lt)
  clear hBb9
  have hBb9 := hBb9'
  clear hBb9'
  have hg1' := Lib.hid (hg1.out.below hst)
  clear hg1
  have hg1 := hg1'
  clear hg1'
  have hq1' := Lib.hid (hq1.out.below hst)
  clear hq1
  have hq1 := hq1'
  clear hq1'
  have hBc1' := Lib.hid (hBc1.out.below hst hBc1.out.lt)
  clear hBc1
  have hBc1 := hBc1'
  clear hBc1'
  have hg2' := Lib.hid (hg2.out.below hst)
  clear hg2
  have hg2 := hg2'
  clear hg2'
  have hq2' := Lib.hid (hq2.out.below hst)
  clear hq2
  have hq2 := hq2'
  clear hq2'
  have hBc2' := Lib.hid (hBc2.out.below hst hBc2.out.lt)
  clear hBc2
  have hBc2 := hBc2'
  clear hBc2'
  have hg3' := Lib.hid (hg3.out.below hst)
  clear hg3
  have hg3 := hg3'
  clear hg3'
  have hq3' := Lib.hid (hq3.out.below hst)
  clear hq3
  have hq3 := hq3'
  clear hq3'
  have hBc3' := Lib.hid (hBc3.out.below hst hBc3.out.lt)
  clear hBc3
  have hBc3 := hBc3'
  clear hBc3'
  have hg4' := Lib.hid (hg4.out.below hst)
  clear hg4
  have hg4 := hg4'
  clear hg4'
  have hq4' := Lib.hid (hq4.out.below hst)
  clear hq4
  have hq4 := hq4'
  clear hq4'
  have hBc4' := Lib.hid (hBc4.out.below hst hBc4.out.lt)
  clear hBc4
  have hBc4 := hBc4'
  clear hBc4'
  clear hst
  clear hsm
  have hsm := Lib.hid (r35same_any (fun _ => True) (fun _ => True) (fun _ => True) (fun _ => True) (resD TD) la3 (resD TD).ls.length lc3 ra3 (resD TD).rs.length rc3 la4 lc4 ra4 rc4 wg hg3.out hq3.out hg4.out hq4.out)
  rw [hs3.out, hs4.out] at hsm
  go_wp2_with (first
   | (refine wpList_load_gd (by rfl) 34 (.tmp 15) (by rfl) c3 0 (by rfl) s3 _ hBc3.out.range Tryz.underlying34 (by rfl) his3.out ?_)
    | (refine wpList_load_gd (by rfl) 34 (.tmp 17) (by rfl) c4 0 (by rfl) s4 _ hBc4.out.range Tryz.underlying34 (by rfl) his4.out ?_))
  refine (hsm.out).mono ?_
  rintro e wh ⟨rfl, hst⟩
  have hBd' := Lib.hid (hBd.out.below hst hBd.out.lt)
  clear hBd
  have hBd := hBd'
  clear hBd'
  have hBx' := Lib.hid (hBx.out.below hst hBx.out.lt)
  clear hBx
  have hBx := hBx'
  clear hBx'
  have hb' := Lib.hid (hb.out.trans (hst.mono hb.out.size))
  clear hb
  have hb := hb'
  clear hb'
  have hBb7' := Lib.hid (hBb7.out.below hst hBb7.out.lt)
  clear hBb7
  have hBb7 := hBb7'
  clear hBb7'
  have hBb9' := Lib.hid (hBb9.out.below hst hBb9.out.lt)
  clear hBb9
  have hBb9 := hBb9'
  clear hBb9'
  have hg1' := Lib.hid (hg1.out.below hst)
  clear hg1
  have hg1 := hg1'
  clear hg1'
  have hq1' := Lib.hid (hq1.out.below hst)
  clear hq1
  have hq1 := hq1'
  clear hq1'
  have hBc1' := Lib.hid (hBc1.out.below hst hBc1.out.lt)
  clear hBc1
  have hBc1 := hBc1'
  clear hBc1'
  have hg2' := Lib.hid (hg2.out.below hst)
  clear hg2
  have hg2 := hg2'
  clear hg2'
  have hq2' := Lib.hid (hq2.out.below hst)
  clear hq2
  have hq2 := hq2'
  clear hq2'
  have hBc2' := Lib.hid (hBc2.out.below hst hBc2.out.lt)
  clear hBc2
  have hBc2 := hBc2'
  clear hBc2'
  have hg3' := Lib.hid (hg3.out.below hst)
  clear hg3
  have hg3 := hg3'
  clear hg3'
  have hq3' := Lib.hid (hq3.out.below hst)
  clear hq3
  have hq3 := hq3'
  clear hq3'
  have hBc3' := Lib.hid (hBc3.out.below hst hBc3.out.lt)
  clear hBc3
  have hBc3 := hBc3'
  clear hBc3'
  have hg4' := Lib.hid (hg4.out.below hst)
  clear hg4
  have hg4 := hg4'
  clear hg4'
  have hq4' := Lib.hid (hq4.out.below hst)
  clear hq4
  have hq4 := hq4'
  clear hq4'
  have hBc4' := Lib.hid (hBc4.out.below hst hBc4.out.lt)
  clear hBc4
  have hBc4 := hBc4'
  clear hBc4'
  clear hst
  clear hsm
  have hend := Lib.hid (hfin.out wh hb.out)
  go_wp2_with fail
  exact hend.out
end Go.Proofs.YthhblcbnnmoojaaGreatDoor
namespace Go.Proofs.YthhblcbnnmoojaaGreatDoor.lawSetSpec
open Go.ChangeShapes Go.WideShapes Go.ChangeAt Go.RowKit Go.Mem
open Go.Proofs.YthhblcbnnmoojaaGreatDoor

set_option maxRecDepth 100000 in
theorem lifted (os : Os) (started : os.Started) (H : Type) (enc : TypeId × Value → H) :
 ReturnsInHanded {} Tryz.checked os 4 .any (fun w args => (Rows.directorySetSpecSpec.pre enc Tryz.prog Tryz.f4 [] false w args ∧ laidMetH Tryz.prog laid2 w) ∧ sizedMet enc Tryz.prog Tryz.f4 (OpenSpec.ofChange Rows.directorySetSpecSpec) false w args)
  (Rows.directorySetSpecSpec.post enc Tryz.prog Tryz.f4 false true false false) := by
 refine returnsInHanded_of_change_and (C := Tryz.checked) (X := fun w _ => laidMetH Tryz.prog laid2 w) (fun _ _ _ hh h => h.of_heap hh) own started (by kernel_rfl) Tryz.func4
  (ChangeSpec.witness_shaped (enc := enc) (C := Tryz.checked) (os := os) (X := fun w _ => laidMetH Tryz.prog laid2 w) false (World.doorLaid Tryz.prog 400 os) #[.int .i64 0, .agg (dirC 0 none 0 0 none 0 0).toArray, .agg (gC Go.Dr.zeroL).toArray] 8 rfl (World.shaped_of_RefB (by kernel_rfl) (by kernel_rfl)) (by kernel_rfl) (by kernel_rfl) (by kernel_rfl) (door_met os _)) ?_
 intro W base args ds gs before hval0 hW _ hwt hL _
 have hval : ∀ (j : Nat) t v, Tryz.f4.params[j]? = some t → args[j]? = some v → Value.okWide Tryz.prog W .any base t v := hval0
 have hW' := hW
 obtain ⟨p, q, hA0, hV, rfl, hfz, hnd⟩ := hW
 have hA : DataW.TrodAll enc Tryz.prog W 0 (fun _ => true) true Tryz.f4.params.toList args.toList ds p := hA0
 rw [Tryz.params4] at hA hval
 obtain ⟨v0, vs0, d0, ds0, p0, q0, hargs, rfl, rfl, h0, r0⟩ := trodAll_cons hA
 obtain ⟨v1, vs1, d1, ds1, p1, q1, rfl, rfl, rfl, h1, r1⟩ := trodAll_cons r0
 obtain ⟨v2, vs2, d2, ds2, p2, q2, rfl, rfl, rfl, h2, r2⟩ := trodAll_cons r1
 obtain ⟨rfl, rfl, rfl⟩ := trodAll_nil r2
 obtain rfl : args = #[v0, v1, v2] := by cases args; simp_all
 obtain ⟨rfl, rfl⟩ := trodVars_none hV
 have lt0 : ∀ x ∈ p0, x.block < W.heap.size := by obtain ⟨m, hm⟩ := h0; exact DataW.trod_lt m _ _ _ hm
 have lt1 : ∀ x ∈ p1, x.block < W.heap.size := by obtain ⟨m, hm⟩ := h1; exact DataW.trod_lt m _ _ _ hm
 have lt2 : ∀ x ∈ p2, x.block < W.heap.size := by obtain ⟨m, hm⟩ := h2; exact DataW.trod_lt m _ _ _ hm
 have k0' := h0
 have k1' := h1
 have k2' := h2
 obtain ⟨x0, rfl⟩ := okWide_int Tryz.underlying3 (hval 0 3 v0 rfl rfl)
 obtain ⟨m0, hm0⟩ := h0
 obtain ⟨x0', e0, i0⟩ := open_int1 (cs := [.int .i64 x0]) (by simpa [Value.cells] using hm0)
 obtain rfl : x0 = x0' := by simpa using e0
 clear hm0 e0
 obtain ⟨cs1, rfl, _⟩ := okWide_struct Tryz.underlying34 (hval 1 34 v1 rfl rfl)
 obtain ⟨m1, hm1⟩ := h1
 obtain ⟨y1, la1, ln1, lc1, ra1, rn1, rc1, e1, S1⟩ := open_dir (cs := cs1.toList) (by simpa [Value.cells] using hm1)
 obtain rfl : cs1 = (dirC y1.priv la1 ln1 lc1 ra1 rn1 rc1).toArray := by rw [← e1]
 clear hm1 e1
 obtain ⟨cs2, rfl, _⟩ := okWide_struct Tryz.underlying36 (hval 2 36 v2 rfl rfl)
 obtain ⟨m2, hm2⟩ := h2
 obtain ⟨y2, ok2, e2⟩ := open_ls (cs := cs2.toList) (by simpa [Value.cells] using hm2)
 obtain rfl : cs2 = (gC y2).toArray := by rw [← e2]
 clear hm2 e2
 have hT := tabs_of_laid hL
 clear hA0 hval0
 refine (setspec_walk x0 i0 y1 la1 ln1 lc1 ra1 rn1 rc1 y2 ok2 W hT S1).mono fun e W' ⟨he, bel⟩ => ?_
 subst he
 exact ⟨_, rfl, _, _, _, [], _, [], hW', trodAll_mk1 (shut_bool Tryz.underlying4 _),
  (trodAll_cons_mk (Below.trod laidOut (by kernel_rfl) (of_decide_eq_true (by kernel_rfl)) k0' bel lt0) (trodAll_cons_mk (Below.trod laidOut (by kernel_rfl) (of_decide_eq_true (by kernel_rfl)) k1' bel lt1) (trodAll_cons_mk (Below.trod laidOut (by kernel_rfl) (of_decide_eq_true (by kernel_rfl)) k2' bel lt2) trodAll_mk0))), rfl, bel.frame _, fun h => by cases h⟩

theorem over : Rows.DirectorySetSpecSaid :=
 OpenClaim.holds_of_wide 4 Tryz.f4 rfl rfl rfl rfl rfl rfl rfl ⟨rfl, rfl, rfl, rfl, rfl⟩ rfl rfl rfl rfl rfl (by kernel_rfl) Tryz.func4 (by kernel_rfl)
  (of_decide_eq_true (by kernel_rfl)) (by unfold Func.isWrapper; first | (rw [if_pos (by decide +kernel)]; kernel_rfl) | (rw [if_neg (by decide +kernel)]; exact ⟨rfl, rfl⟩))
  (fun os started H enc _ => lifted os started H enc)

theorem proved : Rows.DirectorySetSpecCardSaid :=
 Claim7.holds_tied_plain_at .later [] [.data, .data, .sentinel] true (true, "1d3431046d51e23ed24249f1205848a0c04a50149c11ca40710e0fbacd3e68da") false
  over (fun _ h => by cases h) (by kernel_rfl) (fun _ h => by cases h) directorySetSpec_row_tie rfl ⟨rfl, rfl⟩ (by kernel_rfl) rfl
  (fun f fn hf hfn => by
    obtain rfl : f = 4 := Option.some.inj ((show Tryz.prog.funcNamed "chartroom/chartroomlaw35.DirectorySetSpec" = some 4 by kernel_rfl).symm.trans hf) |>.symm
    obtain rfl : fn = Tryz.f4 := (Option.some.inj (Tryz.func4.symm.trans hfn)).symm
    exact ⟨by kernel_rfl, fun j t ht => by
     rw [Tryz.params4] at ht
     have hm : t ∈ [3, 34, 36] := by simpa using Array.mem_of_getElem? ht
     have hall : ([3, 34, 36].all fun u => !Tryz.prog.wantsStandIn u) = true := by kernel_rfl
     exact (show Tryz.prog.wantsStandIn t = false by simpa using List.all_eq_true.1 hall t hm)⟩)
  (by kernel_rfl)
#print axioms proved
end Go.Proofs.YthhblcbnnmoojaaGreatDoor.lawSetSpec
