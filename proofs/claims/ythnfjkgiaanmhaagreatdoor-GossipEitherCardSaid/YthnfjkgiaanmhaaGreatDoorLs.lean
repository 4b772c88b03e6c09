/- the law GossipEither walked -/
import Derived.Test.YthnfjkgiaanmhaaGreatDoorGd
import Derived.Test.YthnfjkgiaanmhaaGreatDoorRe
import Derived.Test.YthnfjkgiaanmhaaGreatDoorCards
import Derived.Test.YthnfjkgiaanmhaaGreatDoorTie
import Derived.SevenTiedAt
import Derived.Deep.DeepHandedRow
import Derived.Deep.DeepWitnessRowRef
namespace Go.Proofs.YthnfjkgiaanmhaaGreatDoor
open Go.RowKit Go.Mem
open Go.Dr (Lst Rt Dir Wt)

section
variable {H : Type} {enc : TypeId × Value → H} {W : World}
theorem cellsWt : Tryz.prog.cellsOf 32 = 2 := by kernel_rfl
theorem open_watch {fuel : Nat} {cs : List Value} {x : DataW H × List MemPlace} (h : DataW.trod enc Tryz.prog W 0 (fun _ => true) true fuel 32 cs = some x) : ∃ (V : Wt) (a : Option Addr) (n c : Nat), cs = wtC V.pub a n c ∧ WM (fun _ => True) W V a n c := by
  obtain ⟨xs, n, _, rfl, hl, hlen, hf⟩ := DataW.trod_struct Tryz.underlying32 h
  rw [cellsWt] at hl
  match xs, hlen with
  | [y0, y1], _ =>
    have h0 : DataW.trod enc Tryz.prog W 0 (fun _ => true) true n 3 ((cs.drop 0).take (Tryz.prog.cellsOf 3)) = some y0 := hf 0 _ rfl
    rw [cellsInt] at h0
    have h1 : DataW.trod enc Tryz.prog W 0 (fun _ => true) true n 25 ((cs.drop 1).take (Tryz.prog.cellsOf 25)) = some y1 := hf 1 _ rfl
    rw [cellsRl] at h1
    obtain ⟨p, e0, i0⟩ := open_int1 h0
    obtain ⟨ra, rn, rc, r, e1, hQ⟩ := open_rts h1
    have q2 : cs.drop 2 = [] := List.drop_eq_nil_of_le (by omega)
    have q1 : cs.drop 1 = [.slice ra rn rc] := by rw [drop_parts cs 1 1 2 rfl, e1, q2]; rfl
    have q0 : cs.drop 0 = [.int .i64 p, .slice ra rn rc] := by rw [drop_parts cs 0 1 1 rfl, e0, q1]; rfl
    exact ⟨⟨p, r⟩, ra, rn, rc, q0, i0, hQ⟩
end
end Go.Proofs.YthnfjkgiaanmhaaGreatDoor
namespace Go.Proofs.YthnfjkgiaanmhaaGreatDoor
open Go.RowKit Go.Mem
open Go.Dr (Lst Rt Dir Wt)

def refd (U : Wt) (r : Rt) : Bool := (Go.Dr.accW 4 U r).2.2 == 361
theorem any_step {l : List Rt} {k : Nat} {x : Rt} {U : Wt} (hx : l[k]? = some x) : (l.take (k + 1)).any (refd U) = ((l.take k).any (refd U) || refd U x) := by
  rw [List.take_add_one, hx]
  simp
theorem codes {U : Wt} {r : Rt} (hu : Go.Dr.WOk 4 U) (hr : Go.Dr.properB 4 U.pub r = true) : (Go.Dr.accW 4 U r).2.2 = 0 ∨ (Go.Dr.accW 4 U r).2.2 = 361 := by
  rw [Go.Dr.acc_split hu hr]
  split
  · exact .inr rfl
  · exact .inl rfl

set_option maxRecDepth 100000 in
set_option maxHeartbeats 40000000 in
theorem geither_walk (V : Wt) (a : Option Addr) (n c : Nat) (U : Wt) (a2 : Option Addr) (n2 c2 : Nat) (w : World) (HT : Tabs w) (H : WM (fun _ => True) w V a n c) (H2 : WM (fun _ => True) w U a2 n2 c2) :
    Calls Tryz.prog 6 #[.agg (wtC V.pub a n c).toArray, .agg (wtC U.pub a2 n2 c2).toArray] w (RetBo true w) := by
  have HT' := Lib.hid HT
  have hlv : Hid (V.rs.length = n) := H.len
  have hlu : Hid (U.rs.length = n2) := H2.len
  have n63 := H.n63
  clear HT
  obtain ⟨X, hX⟩ : ∃ X, X = RetBo true w := ⟨_, rfl⟩
  have hfin : Hid (∀ W, Below w.heap.size w W → X (.returned (.bool true)) W) := fun W hb => by rw [hX]; exact ⟨rfl, hb⟩
  rw [← hX]
  clear hX
  obtain ⟨zS, hzS⟩ : ∃ z, Hid (spC Go.Dr.zeroS = z) := ⟨_, rfl⟩
  have hzo : Hid ((Tryz.prog.info? 42).map (·.size) = some zS.length) := by rw [← hzS.out]; exact sizeSp' okZS
  have hz1 : Hid (∀ u ∈ zS, u.oneCell' = true) := by rw [← hzS.out]; exact spC_one _
  have hzl : Hid (zS.length = (spC Go.Dr.zeroS).length) := by show _ = _; rw [← hzS.out]
  have hzr : Hid (∀ W, (Instr.build 42 #[]).run Tryz.prog W = .ok (.agg zS.toArray) W) := fun W => by rw [← hzS.out]; exact split_zero W
  obtain ⟨v0, hW0⟩ : ∃ W, Hid (((w.alloc (.cells (wtC V.pub a n c).toArray 32)).alloc (.cells (wtC U.pub a2 n2 c2).toArray 32)) = W) := ⟨_, rfl⟩
  obtain ⟨b0, hb0⟩ : ∃ b, Hid (w.heap.size = b) := ⟨_, rfl⟩
  obtain ⟨b1, hb1⟩ : ∃ b, Hid (b0 + 1 = b) := ⟨_, rfl⟩
  have hBv : Hid (Blk v0 b0 32 (wtC V.pub a n c)) := by
    rw [← hW0.out, ← hb0.out]
    have hh := (Blk.new w 32 (wtC V.pub a n c)).alloc (.cells (wtC U.pub a2 n2 c2).toArray 32)
    exact hh
  have hBu : Hid (Blk v0 b1 32 (wtC U.pub a2 n2 c2)) := by
    rw [← hW0.out, ← hb1.out, ← hb0.out]
    have hh := Blk.new (w.alloc (.cells (wtC V.pub a n c).toArray 32)) 32 (wtC U.pub a2 n2 c2)
    rw [World.size_alloc] at hh
    exact hh
  have hbw : Hid (Below w.heap.size w v0) := by rw [← hW0.out]; exact ((Below.refl _ w).alloc (Nat.le_refl _) _).alloc (by simp) _
  have hW0q := hW0.out
  have hV := Lib.hid (H.below hbw.out)
  have hU := Lib.hid (H2.below hbw.out)
  clear H H2
  go_enter Tryz.func6, Tryz.ntmps6
  go_upto_region 1 with fail
  rw [hb0.out, hb1.out]
  generalize hWz : World.alloc _ _ = Wz
  obtain rfl : v0 = Wz := by rw [← hWz]; exact hW0q.symm
  clear hWz hW0q hW0
  go_wp2_with fail
  refine (sane36_any _ (HT'.out.below hbw.out)).mono ?_
  rintro e w1 ⟨rfl, hst⟩
  replace hBv := Lib.hid (hBv.out.below hst hBv.out.lt)
  replace hBu := Lib.hid (hBu.out.below hst hBu.out.lt)
  replace hV := Lib.hid (hV.out.below hst)
  replace hU := Lib.hid (hU.out.below hst)
  replace hbw := Lib.hid (hbw.out.trans (hst.mono hbw.out.size))
  clear hst
  have y0 := hBv.out.at_ (i := 0) (x := .int .i64 V.pub) rfl
  have y1 := hBv.out.at_ (i := 1) (x := .slice a n c) rfl
  go_wp2_with fail
  clear y0 y1
  refine (few36_any V a n c hlv.out _).mono ?_
  rintro e w2 ⟨rfl, hst⟩
  replace hBv := Lib.hid (hBv.out.below hst hBv.out.lt)
  replace hBu := Lib.hid (hBu.out.below hst hBu.out.lt)
  replace hV := Lib.hid (hV.out.below hst)
  replace hU := Lib.hid (hU.out.below hst)
  replace hbw := Lib.hid (hbw.out.trans (hst.mono hbw.out.size))
  clear hst
  cases few36 V with
  | false =>
    have hend := Lib.hid (hfin.out _ hbw.out)
    clear hfin
    go_wp2_with fail
    exact hend.out
  | true =>
    have z0 := hBu.out.at_ (i := 0) (x := .int .i64 U.pub) rfl
    have z1 := hBu.out.at_ (i := 1) (x := .slice a2 n2 c2) rfl
    go_wp2_with fail
    clear z0 z1
    refine (few36_any U a2 n2 c2 hlu.out _).mono ?_
    rintro e w3 ⟨rfl, hst⟩
    replace hBv := Lib.hid (hBv.out.below hst hBv.out.lt)
    replace hBu := Lib.hid (hBu.out.below hst hBu.out.lt)
    replace hV := Lib.hid (hV.out.below hst)
    replace hU := Lib.hid (hU.out.below hst)
    replace hbw := Lib.hid (hbw.out.trans (hst.mono hbw.out.size))
    clear hst
    cases few36 U with
    | false =>
      have hend := Lib.hid (hfin.out _ hbw.out)
      clear hfin
      go_wp2_with fail
      exact hend.out
    | true =>
      have y0 := hBv.out.at_ (i := 0) (x := .int .i64 V.pub) rfl
      have y1 := hBv.out.at_ (i := 1) (x := .slice a n c) rfl
      go_wp2_with fail
      clear y0 y1
      have hck := gchk_any (fun _ => True) V a n c _ (HT'.out.below hbw.out) hV.out
      unfold chkW at hck
      obtain ⟨Q, hQv⟩ : ∃ q, Go.Dr.wchk 4 V = q := ⟨_, rfl⟩
      rw [hQv] at hck
      have hQv' := Lib.hid hQv
      clear hQv
      refine (hck).mono ?_
      rintro e w4 ⟨rfl, hst⟩
      replace hBv := Lib.hid (hBv.out.below hst hBv.out.lt)
      replace hBu := Lib.hid (hBu.out.below hst hBu.out.lt)
      replace hV := Lib.hid (hV.out.below hst)
      replace hU := Lib.hid (hU.out.below hst)
      replace hbw := Lib.hid (hbw.out.trans (hst.mono hbw.out.size))
      clear hst hck
      cases Q with
      | false =>
        rw [if_neg (by simp)]
        have hend := Lib.hid (hfin.out _ hbw.out)
        clear hfin
        go_wp2_with fail
        exact hend.out
      | true =>
        rw [if_pos rfl]
        have z0 := hBu.out.at_ (i := 0) (x := .int .i64 U.pub) rfl
        have z1 := hBu.out.at_ (i := 1) (x := .slice a2 n2 c2) rfl
        go_wp2_with fail
        clear z0 z1
        have hck := gchk_any (fun _ => True) U a2 n2 c2 _ (HT'.out.below hbw.out) hU.out
        unfold chkW at hck
        obtain ⟨Q, hQu⟩ : ∃ q, Go.Dr.wchk 4 U = q := ⟨_, rfl⟩
        rw [hQu] at hck
        have hQu' := Lib.hid hQu
        clear hQu
        refine (hck).mono ?_
        rintro e w4b ⟨rfl, hst⟩
        replace hBv := Lib.hid (hBv.out.below hst hBv.out.lt)
        replace hBu := Lib.hid (hBu.out.below hst hBu.out.lt)
        replace hV := Lib.hid (hV.out.below hst)
        replace hU := Lib.hid (hU.out.below hst)
        replace hbw := Lib.hid (hbw.out.trans (hst.mono hbw.out.size))
        clear hst hck
        cases Q with
        | false =>
          rw [if_neg (by simp)]
          have hend := Lib.hid (hfin.out _ hbw.out)
          clear hfin
          go_wp2_with fail
          exact hend.out
        | true =>
          rw [if_pos rfl]
          have y0 := hBv.out.at_ (i := 0) (x := .int .i64 V.pub) rfl
          have y1 := hBv.out.at_ (i := 1) (x := .slice a n c) rfl
          have z0 := hBu.out.at_ (i := 0) (x := .int .i64 U.pub) rfl
          have z1 := hBu.out.at_ (i := 1) (x := .slice a2 n2 c2) rfl
          by_cases hpp : V.pub = U.pub
          rotate_left
          · have hpe : (V.pub == U.pub) = false := by simpa using hpp
            have hpe2 : (V.pub != U.pub) = true := by rw [bne, hpe]; rfl
            have hend := Lib.hid (hfin.out _ hbw.out)
            clear hfin
            go_wp2_with fail
            exact hend.out
          have hpe : (V.pub == U.pub) = true := by simpa using hpp
          have hpe2 : (V.pub != U.pub) = false := by rw [bne, hpe]; rfl
          have hvo := Lib.hid (Go.Dr.wchk_iff.1 hQv'.out)
          have huo := Lib.hid (Go.Dr.wchk_iff.1 hQu'.out)
          have hpu := Lib.hid hpp
          clear hpp
          go_wp2_with fail
          clear y0 y1 z0 z1 hpe hpe2
          have heq12 : Hid ((Go.Dr.cmpW 4 V U).2 = (Go.Dr.cmpW 4 U V).2) := Go.Dr.cmp_either hvo.out huo.out hpu.out
          have href : Hid ((Go.Dr.cmpW 4 V U).2 = V.rs.any (refd U)) := Go.Dr.cmp_refused hvo.out huo.out hpu.out
          have hokx : Hid (OkS (Go.Dr.cmpW 4 V U).1) := cmpW_ok hV.out.qs.oks hU.out.qs.oks
          have hoky : Hid (OkS (Go.Dr.cmpW 4 U V).1) := cmpW_ok hU.out.qs.oks hV.out.qs.oks
          have hc1 := Lib.hid (fun W hT h1 h2 => gcompare_any (fun _ => True) (fun _ => True) V a n c U a2 n2 c2 W hT h1 h2)
          have hc2 := Lib.hid (fun W hT h1 h2 => gcompare_any (fun _ => True) (fun _ => True) U a2 n2 c2 V a n c W hT h1 h2)
          unfold CmpPost at hc1 hc2
          obtain ⟨t1, ht1⟩ : ∃ t, Hid ((Go.Dr.cmpW 4 V U).1 = t) := ⟨_, rfl⟩
          obtain ⟨t2, ht2⟩ : ∃ t, Hid ((Go.Dr.cmpW 4 U V).1 = t) := ⟨_, rfl⟩
          obtain ⟨o1, ho1⟩ : ∃ t, Hid ((Go.Dr.cmpW 4 V U).2 = t) := ⟨_, rfl⟩
          rw [ht1.out, ho1.out] at hc1
          rw [ht2.out, ← heq12.out, ho1.out] at hc2
          rw [ht1.out] at hokx
          rw [ht2.out] at hoky
          rw [ho1.out] at href
          have hi1 : Hid ((Tryz.prog.info? 42).map (·.size) = some (spC t1).length) := sizeSp' hokx.out
          have hi2 : Hid ((Tryz.prog.info? 42).map (·.size) = some (spC t2).length) := sizeSp' hoky.out
          have hl1 : Hid ((spC t1).length = (spC Go.Dr.zeroS).length) := by show _ = _; rw [spC_length hokx.out, spC_length okZS]
          have hl2 : Hid ((spC t2).length = (spC Go.Dr.zeroS).length) := by show _ = _; rw [spC_length hoky.out, spC_length okZS]
          have hn1 := Lib.hid (spC_one t1)
          have hn2 := Lib.hid (spC_one t2)
          obtain ⟨s1, hs1⟩ : ∃ z, Hid (spC t1 = z) := ⟨_, rfl⟩
          obtain ⟨s2, hs2⟩ : ∃ z, Hid (spC t2 = z) := ⟨_, rfl⟩
          rw [hs1.out] at hc1 hi1 hl1 hn1
          rw [hs2.out] at hc2 hi2 hl2 hn2
          clear heq12 ht1 ht2 ho1
          have y0 := hBv.out.at_ (i := 0) (x := .int .i64 V.pub) rfl
          have y1 := hBv.out.at_ (i := 1) (x := .slice a n c) rfl
          have z0 := hBu.out.at_ (i := 0) (x := .int .i64 U.pub) rfl
          have z1 := hBu.out.at_ (i := 1) (x := .slice a2 n2 c2) rfl
          go_wp2_with fail
          clear y0 y1 z0 z1
          refine (hc1.out _ (HT'.out.below hbw.out) hV.out hU.out).mono ?_
          rintro e w5 ⟨rfl, hst⟩
          replace hBv := Lib.hid (hBv.out.below hst hBv.out.lt)
          replace hBu := Lib.hid (hBu.out.below hst hBu.out.lt)
          replace hV := Lib.hid (hV.out.below hst)
          replace hU := Lib.hid (hU.out.below hst)
          replace hbw := Lib.hid (hbw.out.trans (hst.mono hbw.out.size))
          clear hst hc1
          obtain ⟨v5, hP⟩ : ∃ V, Hid (PutR 42 (w5.alloc (.cells (spC Go.Dr.zeroS : List Value).toArray 42)) V w5.heap.size 42 (s1)) := put_row (Blk.new w5 42 (spC Go.Dr.zeroS)) hl1.out (hi1.out) (hn1.out)
          have hst := below_grown ((Below.refl _ w5).alloc (Nat.le_refl _) _) hP.out.grown (by simp) (Nat.le_refl _)
          replace hBv := Lib.hid (hBv.out.below hst hBv.out.lt)
          replace hBu := Lib.hid (hBu.out.below hst hBu.out.lt)
          replace hV := Lib.hid (hV.out.below hst)
          replace hU := Lib.hid (hU.out.below hst)
          replace hbw := Lib.hid (hbw.out.trans (hst.mono hbw.out.size))
          clear hst
          have hBs := Lib.hid hP.out.blk
          go_upto_region 6 with (first
            | (refine wpList_store_mid (by rfl) 42 (.tmp 5) (.tmp 45) (by rfl) w5.heap.size 0 (s1).toArray (by rfl) (by rfl) hP.out.there hP.out.info (by simpa using hP.out.one) ?_
               generalize hWq : World.setCells _ _ _ _ = Wa
               obtain rfl : v5 = Wa := by rw [← hWq]; exact hP.out.eq
               clear hWq))
          clear hP
          have y0 := hBv.out.at_ (i := 0) (x := .int .i64 V.pub) rfl
          have y1 := hBv.out.at_ (i := 1) (x := .slice a n c) rfl
          have z0 := hBu.out.at_ (i := 0) (x := .int .i64 U.pub) rfl
          have z1 := hBu.out.at_ (i := 1) (x := .slice a2 n2 c2) rfl
          go_wp2_with fail
          clear y0 y1 z0 z1
          refine (hc2.out _ (HT'.out.below hbw.out) hU.out hV.out).mono ?_
          rintro e w6 ⟨rfl, hst⟩
          replace hBv := Lib.hid (hBv.out.below hst hBv.out.lt)
          replace hBu := Lib.hid (hBu.out.below hst hBu.out.lt)
          replace hV := Lib.hid (hV.out.below hst)
          replace hU := Lib.hid (hU.out.below hst)
          replace hBs := Lib.hid (hBs.out.below hst hBs.out.lt)
          replace hbw := Lib.hid (hbw.out.trans (hst.mono hbw.out.size))
          clear hst hc2
          obtain ⟨v6, hP⟩ : ∃ V, Hid (PutR 42 (w6.alloc (.cells (spC Go.Dr.zeroS : List Value).toArray 42)) V w6.heap.size 42 (s2)) := put_row (Blk.new w6 42 (spC Go.Dr.zeroS)) hl2.out (hi2.out) (hn2.out)
          have hst := below_grown ((Below.refl _ w6).alloc (Nat.le_refl _) _) hP.out.grown (by simp) (Nat.le_refl _)
          replace hBv := Lib.hid (hBv.out.below hst hBv.out.lt)
          replace hBu := Lib.hid (hBu.out.below hst hBu.out.lt)
          replace hV := Lib.hid (hV.out.below hst)
          replace hU := Lib.hid (hU.out.below hst)
          replace hBs := Lib.hid (hBs.out.below hst hBs.out.lt)
          replace hbw := Lib.hid (hbw.out.trans (hst.mono hbw.out.size))
          clear hst
          have hBs2 := Lib.hid hP.out.blk
          go_upto_region 7 with (first
            | (refine wpList_store_mid (by rfl) 42 (.tmp 7) (.tmp 51) (by rfl) w6.heap.size 0 (s2).toArray (by rfl) (by rfl) hP.out.there hP.out.info (by simpa using hP.out.one) ?_
               generalize hWq : World.setCells _ _ _ _ = Wa
               obtain rfl : v6 = Wa := by rw [← hWq]; exact hP.out.eq
               clear hWq))
          clear hP
          go_wp2_with fail
          go_loopw [9, 10] (fun bv iv wr => ∃ (k : Nat) (b : Bool), k ≤ n ∧ bv = .bool b ∧ iv = .int .i64 (k : Int) ∧ Hid (b = (V.rs.take k).any (refd U)) ∧ Hid (Below v6.heap.size v6 wr)) (fun _ iv _ => n - (intOf iv).toNat)
          case atStart => exact ⟨0, false, Nat.zero_le _, rfl, rfl, rfl, Below.refl _ _⟩
          case round =>
            obtain ⟨k, b, hk, rfl, rfl, hb, hbr⟩ := hrel
            have hBvr := (hBv.out.below hbr.out hBv.out.lt)
            have y1 := hBvr.at_ (i := 1) (x := .slice a n c) rfl
            by_cases hlt : k < n
            · obtain ⟨x, hx⟩ : ∃ x, V.rs[k]? = some x := ⟨_, List.getElem?_eq_getElem (by have := hlv.out; omega)⟩
              have hxm := List.mem_of_getElem? hx
              have hox := Lib.hid (hV.out.qs.okAt hx)
              have hst9 := Lib.hid (any_step (U := U) hx)
              have hcd := Lib.hid (codes huo.out (by rw [← hpu.out]; exact hvo.out.pr x hxm))
              obtain ⟨bx, ox, eax, _⟩ := hV.out.qs.cells hx
              subst eax
              have hrx : Hid (∀ wz, Below wr.heap.size wr wz → wz.rangeAt bx (ox + k * 67) (rC x)) := fun wz h => ((hV.out.below hbr.out).below h).qs.at_ hx
              have hxi : Hid ((Tryz.prog.info? 40).map (·.size) = some (rC x).length) := by show _ = _; rw [rC_length hox.out]; exact sizeR
              obtain ⟨V3, s3, q3, hy3⟩ : ∃ V3 s3 q3, Go.Dr.accW 4 U x = (V3, s3, q3) := ⟨_, _, _, rfl⟩
              have hac := Lib.hid (fun (K0 : Nat → Prop) (W : World) hT hM => accept_at (K := K0) hy3 (m := V3.rs.length) rfl hox.out rfl (a := a2) (n := n2) (c := c2) (w := W) hT hM)
              have hs3 := acc_okS (hU.out.qs.oks) hox.out hy3
              have hspl : Hid ((spC s3).length = (spC Go.Dr.zeroS).length) := by show _ = _; rw [spC_length hs3, spC_length okZS]
              have hspi : Hid ((Tryz.prog.info? 42).map (·.size) = some (spC s3).length) := sizeSp' hs3
              have hsp1 := Lib.hid (spC_one s3)
              have hrf : Hid (refd U x = (q3 == 361)) := by show _ = _; unfold refd; rw [hy3]
              rw [hy3] at hcd
              simp only at hcd
              obtain ⟨sp, hsp⟩ : ∃ sp, Hid (spC s3 = sp) := ⟨_, rfl⟩
              obtain ⟨m3, hm3⟩ : ∃ m, Hid (V3.rs.length = m) := ⟨_, rfl⟩
              obtain ⟨rx, hrxe⟩ : ∃ z, Hid (rC x = z) := ⟨_, rfl⟩
              rw [hsp.out] at hspl hspi hsp1 hac
              rw [hm3.out, hrxe.out] at hac
              rw [hrxe.out] at hrx hxi
              rw [hrf.out] at hst9
              have k0 : (0 : Int) ≤ (k : Int) := by omega
              have k1 : (k : Int) < (n : Int) := by omega
              clear hx hxm hy3
              have hBv1 := Lib.hid hBvr
              have hBu1 := Lib.hid (hBu.out.below hbr.out hBu.out.lt)
              have hU1 := Lib.hid (hU.out.below hbr.out)
              have hbw1 := Lib.hid (hbw.out.trans (hbr.out.mono hbw.out.size))
              clear hBvr
              go_upto_region 11 with fail
              refine share (G := ∀ (q11 : Nat) (q12 : Nat) (a9 : Option Addr) (c9 : Nat) (WZ : World), (Below wr.heap.size wr WZ) → (Blk WZ q11 32 (wtC V3.pub a9 m3 c9)) → (wr.heap.size ≤ q11) → (Blk WZ q12 42 (sp)) → (wr.heap.size ≤ q12) → (q11 ≠ q12) → (?GfinR11 : Nat → Nat → Option Addr → Nat → World → Prop) q11 q12 a9 c9 WZ) ?hfinR11 ?kfinR11
              case' hfinR11 =>
                intro KfinR11
              case' hfinR11 =>
                refine share (G := ∀ (q11 : Nat) (q12 : Nat) (a9 : Option Addr) (c9 : Nat) (WZ : World), (Below wr.heap.size wr WZ) → (Blk WZ q11 32 (wtC V3.pub a9 m3 c9)) → (wr.heap.size ≤ q11) → (Blk WZ q12 42 (spC Go.Dr.zeroS)) → (wr.heap.size ≤ q12) → (q11 ≠ q12) → (?Gs2_11_12_R11 : Nat → Nat → Option Addr → Nat → World → Prop) q11 q12 a9 c9 WZ) ?hs2_11_12_R11 ?ks2_11_12_R11
              case' hs2_11_12_R11 => intro Ks2_11_12_R11
              case' hs2_11_12_R11 =>
                refine share (G := ∀ (q11 : Nat) (q12 : Nat) (a9 : Option Addr) (c9 : Nat) (WZ : World), (Below wr.heap.size wr WZ) → (Blk WZ q11 32 (wtC 0 none 0 0)) → (wr.heap.size ≤ q11) → (Blk WZ q12 42 (spC Go.Dr.zeroS)) → (wr.heap.size ≤ q12) → (q11 ≠ q12) → (?Gs1_11_12_R11 : Nat → Nat → Option Addr → Nat → World → Prop) q11 q12 a9 c9 WZ) ?hs1_11_12_R11 ?ks1_11_12_R11
              case' hs1_11_12_R11 => intro Ks1_11_12_R11
              case' hs1_11_12_R11 =>
                refine share (G := ∀ (q11 : Nat) (a9 : Option Addr) (c9 : Nat) (WZ : World), (Below wr.heap.size wr WZ) → (Blk WZ q11 32 (wtC 0 none 0 0)) → (wr.heap.size ≤ q11) → (?Gs1_11_R11 : Nat → Option Addr → Nat → World → Prop) q11 a9 c9 WZ) ?hs1_11_R11 ?ks1_11_R11
              case' hs1_11_R11 => intro Ks1_11_R11
              case' hs1_11_R11 =>
                refine share (G := ∀ (q12 : Nat) (a9 : Option Addr) (c9 : Nat) (WZ : World), (Below wr.heap.size wr WZ) → (Blk WZ q12 42 (spC Go.Dr.zeroS)) → (wr.heap.size ≤ q12) → (?Gs1_12_R11 : Nat → Option Addr → Nat → World → Prop) q12 a9 c9 WZ) ?hs1_12_R11 ?ks1_12_R11
              case' hs1_12_R11 => intro Ks1_12_R11
              case' hs1_12_R11 =>
                refine share (G := ∀ (a9 : Option Addr) (c9 : Nat) (WZ : World), (Below wr.heap.size wr WZ) → (?Gs1_R11 : Option Addr → Nat → World → Prop) a9 c9 WZ) ?hs1_R11 ?ks1_R11
              case' hs1_R11 => intro Ks1_R11
              case' hs1_R11 =>
                refine share (G := ∀ (q11 : Nat) (q12 : Nat) (WZ : World), (Below wr.heap.size wr WZ) → (Blk WZ q11 32 (wtC 0 none 0 0)) → (wr.heap.size ≤ q11) → (Blk WZ q12 42 (spC Go.Dr.zeroS)) → (wr.heap.size ≤ q12) → (q11 ≠ q12) → (?Gs0_11_12_R11 : Nat → Nat → World → Prop) q11 q12 WZ) ?hs0_11_12_R11 ?ks0_11_12_R11
              case' hs0_11_12_R11 => intro Ks0_11_12_R11
              case' hs0_11_12_R11 =>
                refine share (G := ∀ (q11 : Nat) (WZ : World), (Below wr.heap.size wr WZ) → (Blk WZ q11 32 (wtC 0 none 0 0)) → (wr.heap.size ≤ q11) → (?Gs0_11_R11 : Nat → World → Prop) q11 WZ) ?hs0_11_R11 ?ks0_11_R11
              case' hs0_11_R11 => intro Ks0_11_R11
              case' hs0_11_R11 =>
                refine share (G := ∀ (q12 : Nat) (WZ : World), (Below wr.heap.size wr WZ) → (Blk WZ q12 42 (spC Go.Dr.zeroS)) → (wr.heap.size ≤ q12) → (?Gs0_12_R11 : Nat → World → Prop) q12 WZ) ?hs0_12_R11 ?ks0_12_R11
              case' hs0_12_R11 => intro Ks0_12_R11
              case hs0_12_R11 =>
                refine wp_region_held_drew (S := fun wz => Below wr.heap.size wr wz) (by kernel_rfl) ((Below.refl _ wr).drew) (fun hHeld => ?_)
                generalize wr.drew = WZ at *
                refine wpAnyH_take (i := 0) (oi := { dst := some 61, op := Op.load 32 (Operand.tmp 3), type := 32, pos := "law.go:190", after := #[], guard := none }) (v := ?_) rfl (by kernel_rfl) (by kernel_rfl) (by kernel_rfl) (fun _ _ _ h => h) (Or.inl ⟨by rfl, ?_⟩) hHeld ?_
                rotate_left
                · intro wz hSw
                  have z0 := (hBu1.out.below hSw hBu1.out.lt).at_ (i := 0) (x := .int .i64 U.pub) rfl
                  have z1 := (hBu1.out.below hSw hBu1.out.lt).at_ (i := 1) (x := .slice a2 n2 c2) rfl
                  go_simp
                  all_goals (with_reducible rfl)
                try simp only [Act.put, List.setIfInBounds_toArray, List.set_cons_zero, List.set_cons_succ]
                refine wpAnyH_take (i := 1) (oi := { dst := some 62, op := Op.fieldAddr 32 (Operand.tmp 2) 1, type := 0, pos := "law.go:190", after := #[], guard := none }) (v := ?_) rfl (by kernel_rfl) (by kernel_rfl) (by kernel_rfl) (fun _ _ _ h => h) (Or.inl ⟨by rfl, ?_⟩) hHeld ?_
                rotate_left
                · intro wz hSw
                  go_simp
                  all_goals (with_reducible rfl)
                try simp only [Act.put, List.setIfInBounds_toArray, List.set_cons_zero, List.set_cons_succ]
                refine wpAnyH_take (i := 2) (oi := { dst := some 63, op := Op.load 25 (Operand.tmp 62), type := 25, pos := "law.go:190", after := #[{ on := 1, ground := Ground.data }], guard := none }) (v := ?_) rfl (by kernel_rfl) (by kernel_rfl) (by kernel_rfl) (fun _ _ _ h => h) (Or.inl ⟨by rfl, ?_⟩) hHeld ?_
                rotate_left
                · intro wz hSw
                  have y1' := (hBv1.out.below hSw hBv1.out.lt).at_ (i := 1) (x := .slice (some ⟨bx, ox, none⟩) n c) rfl
                  go_simp
                  all_goals (with_reducible rfl)
                try simp only [Act.put, List.setIfInBounds_toArray, List.set_cons_zero, List.set_cons_succ]
                refine wpAnyH_take (i := 3) (oi := { dst := some 64, op := Op.move (Operand.tmp 10), type := 3, pos := "law.go:190", after := #[], guard := none }) (v := ?_) rfl (by kernel_rfl) (by kernel_rfl) (by kernel_rfl) (fun _ _ _ h => h) (Or.inl ⟨by rfl, ?_⟩) hHeld ?_
                rotate_left
                · intro wz hSw
                  go_simp
                  all_goals (with_reducible rfl)
                try simp only [Act.put, List.setIfInBounds_toArray, List.set_cons_zero, List.set_cons_succ]
                refine wpAnyH_take (i := 4) (oi := { dst := some 65, op := Op.indexAddr 25 (Operand.tmp 63) (Operand.tmp 64), type := 0, pos := "law.go:190", after := #[{ on := 2, ground := Ground.data }, { on := 3, ground := Ground.data }], guard := none }) (v := ?_) rfl (by kernel_rfl) (by kernel_rfl) (by kernel_rfl) (fun _ _ _ h => h) (Or.inl ⟨by rfl, ?_⟩) hHeld ?_
                rotate_left
                · intro wz hSw
                  have k0' := k0
                  have k1' := k1
                  go_simp
                  all_goals (with_reducible rfl)
                try simp only [Act.put, List.setIfInBounds_toArray, List.set_cons_zero, List.set_cons_succ]
                refine wpAnyH_take (i := 5) (oi := { dst := some 66, op := Op.load 40 (Operand.tmp 65), type := 40, pos := "law.go:190", after := #[{ on := 4, ground := Ground.data }], guard := none }) rfl (by kernel_rfl) (by kernel_rfl) (by kernel_rfl) (fun _ _ _ h => h) (yieldsIf_load_mid (by rfl) _ _ rfl bx (ox + k * 67) rfl (rx) _ (fun wz h => hrx.out wz h) Tryz.underlying40 rfl (hxi.out)) hHeld ?_
                try simp only [Act.put, List.setIfInBounds_toArray, List.set_cons_zero, List.set_cons_succ]
                refine wpAnyH_ready (rs := [6, 11, 12]) (by kernel_rfl) (by simp) ?_
                refine AllReadyH.cons (o := { dst := some 67, op := Op.call { callee := Callee.value (Operand.func 15), args := #[Operand.tmp 61, Operand.tmp 66], argTypes := #[32, 40] }, type := 49, pos := "law.go:190", after := #[{ on := 0, ground := Ground.data }, { on := 5, ground := Ground.data }], guard := none }) rfl (fun K hK => ?_) (AllReadyH.cons (o := { dst := some 11, op := Op.alloc 32, type := 0, pos := "law.go:190", after := #[], guard := none }) rfl (fun K hK => ?_) (AllReadyH.cons (o := { dst := some 12, op := Op.alloc 42, type := 0, pos := "law.go:190", after := #[], guard := none }) rfl (fun K hK => ?_) AllReadyH.nil))
                case refine_1 =>
                  rw [if_pos (by rfl)]
                  show Oper.wp _ _ _ _ K _
                  go_simp
                  go_at_call 15
                  refine (hac.out (fun _ => True) _ (HT'.out.below (hbw1.out.trans (hHeld.mono hbw1.out.size))) (hU1.out.below hHeld)).mono ?_
                  rintro e wq ⟨a9, c9, rfl, _, hst⟩


                  refine hK.out _ _ (hHeld.trans (hst.mono hHeld.size)) (fun hHeld2 => ?_)
                  clear hK K
                  try simp only [Act.put, List.setIfInBounds_toArray, List.set_cons_zero, List.set_cons_succ]
                  refine wpAnyH_take (i := 7) (oi := { dst := some 60, op := Op.move (Operand.tmp 67), type := 49, pos := "law.go:190", after := #[{ on := 6, ground := Ground.data }], guard := none }) (v := ?_) rfl (by kernel_rfl) (by kernel_rfl) (by kernel_rfl) (fun _ _ _ h => h) (Or.inl ⟨by rfl, ?_⟩) hHeld2 ?_
                  rotate_left
                  · intro wz hSw
                    go_simp
                    all_goals (with_reducible rfl)
                  try simp only [Act.put, List.setIfInBounds_toArray, List.set_cons_zero, List.set_cons_succ]
                  refine wpAnyH_take (i := 8) (oi := { dst := some 68, op := Op.extract (Operand.tmp 60) 0, type := 32, pos := "law.go:190", after := #[{ on := 7, ground := Ground.data }], guard := none }) (v := ?_) rfl (by kernel_rfl) (by kernel_rfl) (by kernel_rfl) (fun _ _ _ h => h) (Or.inl ⟨by rfl, ?_⟩) hHeld2 ?_
                  rotate_left
                  · intro wz hSw
                    go_simp
                    all_goals (with_reducible rfl)
                  try simp only [Act.put, List.setIfInBounds_toArray, List.set_cons_zero, List.set_cons_succ]
                  refine wpAnyH_take (i := 9) (oi := { dst := some 69, op := Op.extract (Operand.tmp 60) 1, type := 42, pos := "law.go:190", after := #[{ on := 7, ground := Ground.data }, { on := 13, ground := Ground.gcOnly Departure.lateStores }], guard := none }) (v := ?_) rfl (by kernel_rfl) (by kernel_rfl) (by kernel_rfl) (fun _ _ _ h => h) (Or.inl ⟨by rfl, ?_⟩) hHeld2 ?_
                  rotate_left
                  · intro wz hSw
                    go_simp
                    all_goals (with_reducible rfl)
                  try simp only [Act.put, List.setIfInBounds_toArray, List.set_cons_zero, List.set_cons_succ]
                  refine wpAnyH_take (i := 10) (oi := { dst := some 70, op := Op.extract (Operand.tmp 60) 2, type := 45, pos := "law.go:190", after := #[{ on := 7, ground := Ground.data }, { on := 14, ground := Ground.gcOnly Departure.lateStores }], guard := none }) (v := ?_) rfl (by kernel_rfl) (by kernel_rfl) (by kernel_rfl) (fun _ _ _ h => h) (Or.inl ⟨by rfl, ?_⟩) hHeld2 ?_
                  rotate_left
                  · intro wz hSw
                    go_simp
                    all_goals (with_reducible rfl)
                  try simp only [Act.put, List.setIfInBounds_toArray, List.set_cons_zero, List.set_cons_succ]
                  exact Ks1_R11 a9 c9 wq (hHeld2)
                case refine_2 =>
                  rw [if_pos (by rfl)]
                  show Oper.wp _ _ _ _ K _
                  go_simp
                  refine hK.out _ _ (hHeld.alloc hHeld.size _) (fun hHeld2 => ?_)
                  clear hK K
                  try simp only [Act.put, List.setIfInBounds_toArray, List.set_cons_zero, List.set_cons_succ]
                  generalize hW2 : World.alloc WZ _ = W2
                  rw [hW2] at hHeld2
                  generalize hq : WZ.heap.size = q11
                  have hBn : Blk W2 q11 32 (wtC 0 none 0 0) := by rw [← hW2, ← hq]; exact Blk.new _ _ _
                  have hLn := hHeld.size
                  rw [hq] at hLn
                  clear hW2 hq
                  exact Ks0_11_R11 q11 W2 (hHeld2) (hBn) (hLn)
                case refine_3 =>
                  rw [if_pos (by rfl)]
                  show Oper.wp _ _ _ _ K _
                  go_simp
                  refine hK.out _ _ (hHeld.alloc hHeld.size _) (fun hHeld2 => ?_)
                  clear hK K
                  try simp only [Act.put, List.setIfInBounds_toArray, List.set_cons_zero, List.set_cons_succ]
                  generalize hW2 : World.alloc WZ _ = W2
                  rw [hW2] at hHeld2
                  generalize hq : WZ.heap.size = q12
                  have hBn : Blk W2 q12 42 (spC Go.Dr.zeroS) := by rw [← hW2, ← hq]; exact Blk.new _ _ _
                  have hLn := hHeld.size
                  rw [hq] at hLn
                  clear hW2 hq
                  exact Ks0_12_R11 q12 W2 (hHeld2) (hBn) (hLn)
              case ks0_12_R11 =>
                intro q12 WZ hHeld hB12 hL12
                refine wpAnyH_ready (rs := [6, 11]) (by kernel_rfl) (by simp) ?_
                refine AllReadyH.cons (o := { dst := some 67, op := Op.call { callee := Callee.value (Operand.func 15), args := #[Operand.tmp 61, Operand.tmp 66], argTypes := #[32, 40] }, type := 49, pos := "law.go:190", after := #[{ on := 0, ground := Ground.data }, { on := 5, ground := Ground.data }], guard := none }) rfl (fun K hK => ?_) (AllReadyH.cons (o := { dst := some 11, op := Op.alloc 32, type := 0, pos := "law.go:190", after := #[], guard := none }) rfl (fun K hK => ?_) AllReadyH.nil)
                case refine_1 =>
                  rw [if_pos (by rfl)]
                  show Oper.wp _ _ _ _ K _
                  go_simp
                  go_at_call 15
                  refine (hac.out (fun _ => True) _ (HT'.out.below (hbw1.out.trans (hHeld.mono hbw1.out.size))) (hU1.out.below hHeld)).mono ?_
                  rintro e wq ⟨a9, c9, rfl, _, hst⟩


                  refine hK.out _ _ (hHeld.trans (hst.mono hHeld.size)) (fun hHeld2 => ?_)
                  clear hK K
                  try simp only [Act.put, List.setIfInBounds_toArray, List.set_cons_zero, List.set_cons_succ]
                  refine wpAnyH_take (i := 7) (oi := { dst := some 60, op := Op.move (Operand.tmp 67), type := 49, pos := "law.go:190", after := #[{ on := 6, ground := Ground.data }], guard := none }) (v := ?_) rfl (by kernel_rfl) (by kernel_rfl) (by kernel_rfl) (fun _ _ _ h => h) (Or.inl ⟨by rfl, ?_⟩) hHeld2 ?_
                  rotate_left
                  · intro wz hSw
                    go_simp
                    all_goals (with_reducible rfl)
                  try simp only [Act.put, List.setIfInBounds_toArray, List.set_cons_zero, List.set_cons_succ]
                  refine wpAnyH_take (i := 8) (oi := { dst := some 68, op := Op.extract (Operand.tmp 60) 0, type := 32, pos := "law.go:190", after := #[{ on := 7, ground := Ground.data }], guard := none }) (v := ?_) rfl (by kernel_rfl) (by kernel_rfl) (by kernel_rfl) (fun _ _ _ h => h) (Or.inl ⟨by rfl, ?_⟩) hHeld2 ?_
                  rotate_left
                  · intro wz hSw
                    go_simp
                    all_goals (with_reducible rfl)
                  try simp only [Act.put, List.setIfInBounds_toArray, List.set_cons_zero, List.set_cons_succ]
                  refine wpAnyH_take (i := 9) (oi := { dst := some 69, op := Op.extract (Operand.tmp 60) 1, type := 42, pos := "law.go:190", after := #[{ on := 7, ground := Ground.data }, { on := 13, ground := Ground.gcOnly Departure.lateStores }], guard := none }) (v := ?_) rfl (by kernel_rfl) (by kernel_rfl) (by kernel_rfl) (fun _ _ _ h => h) (Or.inl ⟨by rfl, ?_⟩) hHeld2 ?_
                  rotate_left
                  · intro wz hSw
                    go_simp
                    all_goals (with_reducible rfl)
                  try simp only [Act.put, List.setIfInBounds_toArray, List.set_cons_zero, List.set_cons_succ]
                  refine wpAnyH_take (i := 10) (oi := { dst := some 70, op := Op.extract (Operand.tmp 60) 2, type := 45, pos := "law.go:190", after := #[{ on := 7, ground := Ground.data }, { on := 14, ground := Ground.gcOnly Departure.lateStores }], guard := none }) (v := ?_) rfl (by kernel_rfl) (by kernel_rfl) (by kernel_rfl) (fun _ _ _ h => h) (Or.inl ⟨by rfl, ?_⟩) hHeld2 ?_
                  rotate_left
                  · intro wz hSw
                    go_simp
                    all_goals (with_reducible rfl)
                  try simp only [Act.put, List.setIfInBounds_toArray, List.set_cons_zero, List.set_cons_succ]
                  exact Ks1_12_R11 q12 a9 c9 wq (hHeld2) (hB12.below hst hB12.lt) (hL12)
                case refine_2 =>
                  rw [if_pos (by rfl)]
                  show Oper.wp _ _ _ _ K _
                  go_simp
                  refine hK.out _ _ (hHeld.alloc hHeld.size _) (fun hHeld2 => ?_)
                  clear hK K
                  try simp only [Act.put, List.setIfInBounds_toArray, List.set_cons_zero, List.set_cons_succ]
                  generalize hW2 : World.alloc WZ _ = W2
                  rw [hW2] at hHeld2
                  generalize hq : WZ.heap.size = q11
                  have hBn : Blk W2 q11 32 (wtC 0 none 0 0) := by rw [← hW2, ← hq]; exact Blk.new _ _ _
                  have hLn := hHeld.size
                  rw [hq] at hLn
                  have hB12' : Blk W2 q12 42 (spC Go.Dr.zeroS) := by rw [← hW2]; exact hB12.alloc _
                  have hN12' := hB12.lt
                  rw [hq] at hN12'
                  clear hW2 hq
                  exact Ks0_11_12_R11 q11 q12 W2 (hHeld2) (hBn) (hLn) (hB12') (hL12) ((by omega))
              case ks0_11_R11 =>
                intro q11 WZ hHeld hB11 hL11
                refine wpAnyH_ready (rs := [6, 12]) (by kernel_rfl) (by simp) ?_
                refine AllReadyH.cons (o := { dst := some 67, op := Op.call { callee := Callee.value (Operand.func 15), args := #[Operand.tmp 61, Operand.tmp 66], argTypes := #[32, 40] }, type := 49, pos := "law.go:190", after := #[{ on := 0, ground := Ground.data }, { on := 5, ground := Ground.data }], guard := none }) rfl (fun K hK => ?_) (AllReadyH.cons (o := { dst := some 12, op := Op.alloc 42, type := 0, pos := "law.go:190", after := #[], guard := none }) rfl (fun K hK => ?_) AllReadyH.nil)
                case refine_1 =>
                  rw [if_pos (by rfl)]
                  show Oper.wp _ _ _ _ K _
                  go_simp
                  go_at_call 15
                  refine (hac.out (fun _ => True) _ (HT'.out.below (hbw1.out.trans (hHeld.mono hbw1.out.size))) (hU1.out.below hHeld)).mono ?_
                  rintro e wq ⟨a9, c9, rfl, _, hst⟩


                  refine hK.out _ _ (hHeld.trans (hst.mono hHeld.size)) (fun hHeld2 => ?_)
                  clear hK K
                  try simp only [Act.put, List.setIfInBounds_toArray, List.set_cons_zero, List.set_cons_succ]
                  refine wpAnyH_take (i := 7) (oi := { dst := some 60, op := Op.move (Operand.tmp 67), type := 49, pos := "law.go:190", after := #[{ on := 6, ground := Ground.data }], guard := none }) (v := ?_) rfl (by kernel_rfl) (by kernel_rfl) (by kernel_rfl) (fun _ _ _ h => h) (Or.inl ⟨by rfl, ?_⟩) hHeld2 ?_
                  rotate_left
                  · intro wz hSw
                    go_simp
                    all_goals (with_reducible rfl)
                  try simp only [Act.put, List.setIfInBounds_toArray, List.set_cons_zero, List.set_cons_succ]
                  refine wpAnyH_take (i := 8) (oi := { dst := some 68, op := Op.extract (Operand.tmp 60) 0, type := 32, pos := "law.go:190", after := #[{ on := 7, ground := Ground.data }], guard := none }) (v := ?_) rfl (by kernel_rfl) (by kernel_rfl) (by kernel_rfl) (fun _ _ _ h => h) (Or.inl ⟨by rfl, ?_⟩) hHeld2 ?_
                  rotate_left
                  · intro wz hSw
                    go_simp
                    all_goals (with_reducible rfl)
                  try simp only [Act.put, List.setIfInBounds_toArray, List.set_cons_zero, List.set_cons_succ]
                  refine wpAnyH_take (i := 9) (oi := { dst := some 69, op := Op.extract (Operand.tmp 60) 1, type := 42, pos := "law.go:190", after := #[{ on := 7, ground := Ground.data }, { on := 13, ground := Ground.gcOnly Departure.lateStores }], guard := none }) (v := ?_) rfl (by kernel_rfl) (by kernel_rfl) (by kernel_rfl) (fun _ _ _ h => h) (Or.inl ⟨by rfl, ?_⟩) hHeld2 ?_
                  rotate_left
                  · intro wz hSw
                    go_simp
                    all_goals (with_reducible rfl)
                  try simp only [Act.put, List.setIfInBounds_toArray, List.set_cons_zero, List.set_cons_succ]
                  refine wpAnyH_take (i := 10) (oi := { dst := some 70, op := Op.extract (Operand.tmp 60) 2, type := 45, pos := "law.go:190", after := #[{ on := 7, ground := Ground.data }, { on := 14, ground := Ground.gcOnly Departure.lateStores }], guard := none }) (v := ?_) rfl (by kernel_rfl) (by kernel_rfl) (by kernel_rfl) (fun _ _ _ h => h) (Or.inl ⟨by rfl, ?_⟩) hHeld2 ?_
                  rotate_left
                  · intro wz hSw
                    go_simp
                    all_goals (with_reducible rfl)
                  try simp only [Act.put, List.setIfInBounds_toArray, List.set_cons_zero, List.set_cons_succ]
                  exact Ks1_11_R11 q11 a9 c9 wq (hHeld2) (hB11.below hst hB11.lt) (hL11)
                case refine_2 =>
                  rw [if_pos (by rfl)]
                  show Oper.wp _ _ _ _ K _
                  go_simp
                  refine hK.out _ _ (hHeld.alloc hHeld.size _) (fun hHeld2 => ?_)
                  clear hK K
                  try simp only [Act.put, List.setIfInBounds_toArray, List.set_cons_zero, List.set_cons_succ]
                  generalize hW2 : World.alloc WZ _ = W2
                  rw [hW2] at hHeld2
                  generalize hq : WZ.heap.size = q12
                  have hBn : Blk W2 q12 42 (spC Go.Dr.zeroS) := by rw [← hW2, ← hq]; exact Blk.new _ _ _
                  have hLn := hHeld.size
                  rw [hq] at hLn
                  have hB11' : Blk W2 q11 32 (wtC 0 none 0 0) := by rw [← hW2]; exact hB11.alloc _
                  have hN11' := hB11.lt
                  rw [hq] at hN11'
                  clear hW2 hq
                  exact Ks0_11_12_R11 q11 q12 W2 (hHeld2) (hB11') (hL11) (hBn) (hLn) ((by omega))
              case ks0_11_12_R11 =>
                intro q11 q12 WZ hHeld hB11 hL11 hB12 hL12 hN11_12
                refine wpAnyH_ready (rs := [6]) (by kernel_rfl) (by simp) ?_
                refine AllReadyH.cons (o := { dst := some 67, op := Op.call { callee := Callee.value (Operand.func 15), args := #[Operand.tmp 61, Operand.tmp 66], argTypes := #[32, 40] }, type := 49, pos := "law.go:190", after := #[{ on := 0, ground := Ground.data }, { on := 5, ground := Ground.data }], guard := none }) rfl (fun K hK => ?_) AllReadyH.nil
                rw [if_pos (by rfl)]
                show Oper.wp _ _ _ _ K _
                go_simp
                go_at_call 15
                refine (hac.out (fun _ => True) _ (HT'.out.below (hbw1.out.trans (hHeld.mono hbw1.out.size))) (hU1.out.below hHeld)).mono ?_
                rintro e wq ⟨a9, c9, rfl, _, hst⟩


                refine hK.out _ _ (hHeld.trans (hst.mono hHeld.size)) (fun hHeld2 => ?_)
                clear hK K
                try simp only [Act.put, List.setIfInBounds_toArray, List.set_cons_zero, List.set_cons_succ]
                refine wpAnyH_take (i := 7) (oi := { dst := some 60, op := Op.move (Operand.tmp 67), type := 49, pos := "law.go:190", after := #[{ on := 6, ground := Ground.data }], guard := none }) (v := ?_) rfl (by kernel_rfl) (by kernel_rfl) (by kernel_rfl) (fun _ _ _ h => h) (Or.inl ⟨by rfl, ?_⟩) hHeld2 ?_
                rotate_left
                · intro wz hSw
                  go_simp
                  all_goals (with_reducible rfl)
                try simp only [Act.put, List.setIfInBounds_toArray, List.set_cons_zero, List.set_cons_succ]
                refine wpAnyH_take (i := 8) (oi := { dst := some 68, op := Op.extract (Operand.tmp 60) 0, type := 32, pos := "law.go:190", after := #[{ on := 7, ground := Ground.data }], guard := none }) (v := ?_) rfl (by kernel_rfl) (by kernel_rfl) (by kernel_rfl) (fun _ _ _ h => h) (Or.inl ⟨by rfl, ?_⟩) hHeld2 ?_
                rotate_left
                · intro wz hSw
                  go_simp
                  all_goals (with_reducible rfl)
                try simp only [Act.put, List.setIfInBounds_toArray, List.set_cons_zero, List.set_cons_succ]
                refine wpAnyH_take (i := 9) (oi := { dst := some 69, op := Op.extract (Operand.tmp 60) 1, type := 42, pos := "law.go:190", after := #[{ on := 7, ground := Ground.data }, { on := 13, ground := Ground.gcOnly Departure.lateStores }], guard := none }) (v := ?_) rfl (by kernel_rfl) (by kernel_rfl) (by kernel_rfl) (fun _ _ _ h => h) (Or.inl ⟨by rfl, ?_⟩) hHeld2 ?_
                rotate_left
                · intro wz hSw
                  go_simp
                  all_goals (with_reducible rfl)
                try simp only [Act.put, List.setIfInBounds_toArray, List.set_cons_zero, List.set_cons_succ]
                refine wpAnyH_take (i := 10) (oi := { dst := some 70, op := Op.extract (Operand.tmp 60) 2, type := 45, pos := "law.go:190", after := #[{ on := 7, ground := Ground.data }, { on := 14, ground := Ground.gcOnly Departure.lateStores }], guard := none }) (v := ?_) rfl (by kernel_rfl) (by kernel_rfl) (by kernel_rfl) (fun _ _ _ h => h) (Or.inl ⟨by rfl, ?_⟩) hHeld2 ?_
                rotate_left
                · intro wz hSw
                  go_simp
                  all_goals (with_reducible rfl)
                try simp only [Act.put, List.setIfInBounds_toArray, List.set_cons_zero, List.set_cons_succ]
                exact Ks1_11_12_R11 q11 q12 a9 c9 wq (hHeld2) (hB11.below hst hB11.lt) (hL11) (hB12.below hst hB12.lt) (hL12) (hN11_12)
              case ks1_R11 =>
                intro a9 c9 WZ hHeld
                refine wpAnyH_ready (rs := [11, 12]) (by kernel_rfl) (by simp) ?_
                refine AllReadyH.cons (o := { dst := some 11, op := Op.alloc 32, type := 0, pos := "law.go:190", after := #[], guard := none }) rfl (fun K hK => ?_) (AllReadyH.cons (o := { dst := some 12, op := Op.alloc 42, type := 0, pos := "law.go:190", after := #[], guard := none }) rfl (fun K hK => ?_) AllReadyH.nil)
                case refine_1 =>
                  rw [if_pos (by rfl)]
                  show Oper.wp _ _ _ _ K _
                  go_simp
                  refine hK.out _ _ (hHeld.alloc hHeld.size _) (fun hHeld2 => ?_)
                  clear hK K
                  try simp only [Act.put, List.setIfInBounds_toArray, List.set_cons_zero, List.set_cons_succ]
                  generalize hW2 : World.alloc WZ _ = W2
                  rw [hW2] at hHeld2
                  generalize hq : WZ.heap.size = q11
                  have hBn : Blk W2 q11 32 (wtC 0 none 0 0) := by rw [← hW2, ← hq]; exact Blk.new _ _ _
                  have hLn := hHeld.size
                  rw [hq] at hLn
                  clear hW2 hq
                  exact Ks1_11_R11 q11 a9 c9 W2 (hHeld2) (hBn) (hLn)
                case refine_2 =>
                  rw [if_pos (by rfl)]
                  show Oper.wp _ _ _ _ K _
                  go_simp
                  refine hK.out _ _ (hHeld.alloc hHeld.size _) (fun hHeld2 => ?_)
                  clear hK K
                  try simp only [Act.put, List.setIfInBounds_toArray, List.set_cons_zero, List.set_cons_succ]
                  generalize hW2 : World.alloc WZ _ = W2
                  rw [hW2] at hHeld2
                  generalize hq : WZ.heap.size = q12
                  have hBn : Blk W2 q12 42 (spC Go.Dr.zeroS) := by rw [← hW2, ← hq]; exact Blk.new _ _ _
                  have hLn := hHeld.size
                  rw [hq] at hLn
                  clear hW2 hq
                  exact Ks1_12_R11 q12 a9 c9 W2 (hHeld2) (hBn) (hLn)
              case ks1_12_R11 =>
                intro q12 a9 c9 WZ hHeld hB12 hL12
                refine wpAnyH_ready (rs := [11]) (by kernel_rfl) (by simp) ?_
                refine AllReadyH.cons (o := { dst := some 11, op := Op.alloc 32, type := 0, pos := "law.go:190", after := #[], guard := none }) rfl (fun K hK => ?_) AllReadyH.nil
                rw [if_pos (by rfl)]
                show Oper.wp _ _ _ _ K _
                go_simp
                refine hK.out _ _ (hHeld.alloc hHeld.size _) (fun hHeld2 => ?_)
                clear hK K
                try simp only [Act.put, List.setIfInBounds_toArray, List.set_cons_zero, List.set_cons_succ]
                generalize hW2 : World.alloc WZ _ = W2
                rw [hW2] at hHeld2
                generalize hq : WZ.heap.size = q11
                have hBn : Blk W2 q11 32 (wtC 0 none 0 0) := by rw [← hW2, ← hq]; exact Blk.new _ _ _
                have hLn := hHeld.size
                rw [hq] at hLn
                have hB12' : Blk W2 q12 42 (spC Go.Dr.zeroS) := by rw [← hW2]; exact hB12.alloc _
                have hN12' := hB12.lt
                rw [hq] at hN12'
                clear hW2 hq
                exact Ks1_11_12_R11 q11 q12 a9 c9 W2 (hHeld2) (hBn) (hLn) (hB12') (hL12) ((by omega))
              case ks1_11_R11 =>
                intro q11 a9 c9 WZ hHeld hB11 hL11
                refine wpAnyH_ready (rs := [12]) (by kernel_rfl) (by simp) ?_
                refine AllReadyH.cons (o := { dst := some 12, op := Op.alloc 42, type := 0, pos := "law.go:190", after := #[], guard := none }) rfl (fun K hK => ?_) AllReadyH.nil
                rw [if_pos (by rfl)]
                show Oper.wp _ _ _ _ K _
                go_simp
                refine hK.out _ _ (hHeld.alloc hHeld.size _) (fun hHeld2 => ?_)
                clear hK K
                try simp only [Act.put, List.setIfInBounds_toArray, List.set_cons_zero, List.set_cons_succ]
                generalize hW2 : World.alloc WZ _ = W2
                rw [hW2] at hHeld2
                generalize hq : WZ.heap.size = q12
                have hBn : Blk W2 q12 42 (spC Go.Dr.zeroS) := by rw [← hW2, ← hq]; exact Blk.new _ _ _
                have hLn := hHeld.size
                rw [hq] at hLn
                have hB11' : Blk W2 q11 32 (wtC 0 none 0 0) := by rw [← hW2]; exact hB11.alloc _
                have hN11' := hB11.lt
                rw [hq] at hN11'
                clear hW2 hq
                exact Ks1_11_12_R11 q11 q12 a9 c9 W2 (hHeld2) (hB11') (hL11) (hBn) (hLn) ((by omega))
              case ks1_11_12_R11 =>
                intro q11 q12 a9 c9 WZ hHeld hB11 hL11 hB12 hL12 hN11_12
                refine wpAnyH_ready (rs := [13]) (by kernel_rfl) (by simp) ?_
                refine AllReadyH.cons (o := { dst := none, op := Op.store 32 (Operand.tmp 11) (Operand.tmp 68), type := 0, pos := "law.go:190", after := #[{ on := 11, ground := Ground.data }, { on := 8, ground := Ground.data }, { on := 6, ground := Ground.chain }, { on := 0, ground := Ground.phase }, { on := 1, ground := Ground.phase }, { on := 2, ground := Ground.phase }, { on := 3, ground := Ground.phase }, { on := 4, ground := Ground.phase }, { on := 5, ground := Ground.phase }, { on := 6, ground := Ground.phase }, { on := 7, ground := Ground.phase }, { on := 8, ground := Ground.phase }, { on := 9, ground := Ground.textOnly Departure.lateStores }, { on := 10, ground := Ground.textOnly Departure.lateStores }, { on := 11, ground := Ground.phase }, { on := 12, ground := Ground.phase }], guard := none }) rfl (fun K hK => ?_) AllReadyH.nil
                obtain ⟨W3, hQ⟩ := put_row (ty := 32) hB11 (x := wtC V3.pub a9 m3 c9) (rfl) (sizeWt) (wt_one _ _ _ _)
                have hHeld2 := below_grown hHeld hQ.grown hHeld.size hL11
                rw [if_pos (by rfl)]
                refine wp_store_mid 32 _ _ rfl q11 0 (wtC V3.pub a9 m3 c9 : List Value).toArray (by rfl) (by rfl) hQ.there hQ.info (by simpa using hQ.one) ?_
                generalize hWq : World.setCells _ _ _ _ = Wa
                obtain rfl : W3 = Wa := by rw [← hWq]; exact hQ.eq
                clear hWq
                refine hK.out _ _ hHeld2 (fun _ => ?_)
                clear hK K
                try simp only [Act.put]
                exact Ks2_11_12_R11 q11 q12 a9 c9 W3 (hHeld2) (hQ.blk) (hL11) (hB12.grown hQ.grown (fun e => by injection e with e; exact hN11_12 e.symm)) (hL12) (hN11_12)
              case ks2_11_12_R11 =>
                intro q11 q12 a9 c9 WZ hHeld hB11 hL11 hB12 hL12 hN11_12
                refine wpAnyH_ready (rs := [14]) (by kernel_rfl) (by simp) ?_
                refine AllReadyH.cons (o := { dst := none, op := Op.store 42 (Operand.tmp 12) (Operand.tmp 69), type := 0, pos := "law.go:190", after := #[{ on := 12, ground := Ground.data }, { on := 9, ground := Ground.data }, { on := 13, ground := Ground.chain }, { on := 0, ground := Ground.phase }, { on := 1, ground := Ground.phase }, { on := 2, ground := Ground.phase }, { on := 3, ground := Ground.phase }, { on := 4, ground := Ground.phase }, { on := 5, ground := Ground.phase }, { on := 6, ground := Ground.phase }, { on := 7, ground := Ground.phase }, { on := 8, ground := Ground.phase }, { on := 9, ground := Ground.phase }, { on := 10, ground := Ground.textOnly Departure.lateStores }, { on := 11, ground := Ground.phase }, { on := 12, ground := Ground.phase }, { on := 13, ground := Ground.phase }], guard := none }) rfl (fun K hK => ?_) AllReadyH.nil
                obtain ⟨W3, hQ⟩ := put_row (ty := 42) hB12 (x := sp) (hspl.out) (hspi.out) (hsp1.out)
                have hHeld2 := below_grown hHeld hQ.grown hHeld.size hL12
                rw [if_pos (by rfl)]
                refine wp_store_mid 42 _ _ rfl q12 0 (sp : List Value).toArray (by rfl) (by rfl) hQ.there hQ.info (by simpa using hQ.one) ?_
                generalize hWq : World.setCells _ _ _ _ = Wa
                obtain rfl : W3 = Wa := by rw [← hWq]; exact hQ.eq
                clear hWq
                refine hK.out _ _ hHeld2 (fun _ => ?_)
                clear hK K
                try simp only [Act.put]
                refine wpAnyH_take (i := 15) (oi := { dst := some 13, op := Op.assign (Operand.tmp 70), type := 45, pos := "law.go:190", after := #[{ on := 10, ground := Ground.data }, { on := 14, ground := Ground.chain }, { on := 0, ground := Ground.phase }, { on := 1, ground := Ground.phase }, { on := 2, ground := Ground.phase }, { on := 3, ground := Ground.phase }, { on := 4, ground := Ground.phase }, { on := 5, ground := Ground.phase }, { on := 6, ground := Ground.phase }, { on := 7, ground := Ground.phase }, { on := 8, ground := Ground.phase }, { on := 9, ground := Ground.phase }, { on := 10, ground := Ground.phase }, { on := 11, ground := Ground.phase }, { on := 12, ground := Ground.phase }, { on := 13, ground := Ground.phase }, { on := 14, ground := Ground.phase }], guard := none }) (v := ?_) rfl (by kernel_rfl) (by kernel_rfl) (by kernel_rfl) (fun _ _ _ h => h) (Or.inl ⟨by rfl, ?_⟩) hHeld2 ?_
                rotate_left
                · intro wz hSw
                  go_simp
                  all_goals (with_reducible rfl)
                try simp only [Act.put, List.setIfInBounds_toArray, List.set_cons_zero, List.set_cons_succ]
                refine wpAnyH_done (by kernel_rfl) ?_ _
                exact KfinR11 q11 q12 a9 c9 W3 (hHeld2) (hB11.grown hQ.grown (fun e => by injection e with e; exact hN11_12 e)) (hL11) (hQ.blk) (hL12) (hN11_12)
              case kfinR11 =>
                intro q11 q12 a9 c9 WZ hHeld _ _ _ _ _
                have hb9 := Lib.hid (hbr.out.trans (hHeld.mono hbr.out.size))
                clear hHeld y1
                rcases hcd.out with hq | hq
                · subst hq
                  have hnx : Hid (b = (V.rs.take (k + 1)).any (refd U)) := by show _ = _; rw [hst9.out, ← hb.out]; simp
                  clear hb hst9 hcd
                  cases b with
                  | true =>
                    go_wp2_with fail
                    go_roundw
                    case rel => exact ⟨k + 1, true, by omega, rfl, by go_num, hnx, hb9⟩
                    case measure => simp [intOf]; omega
                  | false =>
                    go_wp2_with fail
                    go_roundw
                    case rel => exact ⟨k + 1, false, by omega, rfl, by go_num, hnx, hb9⟩
                    case measure => simp [intOf]; omega
                · subst hq
                  have hnx : Hid (true = (V.rs.take (k + 1)).any (refd U)) := by show _ = _; rw [hst9.out]; simp
                  clear hb hst9 hcd
                  cases b with
                  | true =>
                    go_wp2_with fail
                    go_roundw
                    case rel => exact ⟨k + 1, true, by omega, rfl, by go_num, hnx, hb9⟩
                    case measure => simp [intOf]; omega
                  | false =>
                    go_wp2_with fail
                    go_roundw
                    case rel => exact ⟨k + 1, true, by omega, rfl, by go_num, hnx, hb9⟩
                    case measure => simp [intOf]; omega
            · obtain rfl : k = n := by omega
              have hbo : b = o1 := by rw [hb.out, List.take_of_length_le (by have := hlv.out; omega), href.out]
              subst hbo
              have hend := Lib.hid (hfin.out _ (hbw.out.trans (hbr.out.mono hbw.out.size)))
              clear hb href hBvr hfin
              cases b with
              | true =>
                go_wp2_with fail
                exact hend.out
              | false =>
                go_wp2_with fail
                exact hend.out
end Go.Proofs.YthnfjkgiaanmhaaGreatDoor
namespace Go.Proofs.YthnfjkgiaanmhaaGreatDoor.lawGEither
open Go.ChangeShapes Go.WideShapes Go.ChangeAt Go.RowKit Go.Mem
open Go.Proofs.YthnfjkgiaanmhaaGreatDoor

set_option maxRecDepth 100000 in
theorem lifted (os : Os) (started : os.Started) (H : Type) (enc : TypeId × Value → H) :
    ReturnsInHanded {} Tryz.checked os 6 .any (fun w args => (Rows.gossipEitherSpec.pre enc Tryz.prog Tryz.f6 [] false w args ∧ laidMetH Tryz.prog laid2 w) ∧ sizedMet enc Tryz.prog Tryz.f6 (OpenSpec.ofChange Rows.gossipEitherSpec) false w args)
      (Rows.gossipEitherSpec.post enc Tryz.prog Tryz.f6 false true false false) := by
  refine returnsInHanded_of_change_and (C := Tryz.checked) (X := fun w _ => laidMetH Tryz.prog laid2 w) (fun _ _ _ hh h => h.of_heap hh) own started (by kernel_rfl) Tryz.func6
    (ChangeSpec.witness_shaped (enc := enc) (C := Tryz.checked) (os := os) (X := fun w _ => laidMetH Tryz.prog laid2 w) false (World.doorLaid Tryz.prog 400 os) #[.agg (wtC 0 none 0 0).toArray, .agg (wtC 0 none 0 0).toArray] 8 rfl (World.shaped_of_RefB (by kernel_rfl) (by kernel_rfl)) (by kernel_rfl) (by kernel_rfl) (by kernel_rfl) (door_met os _)) ?_
  intro W base args ds gs before hval0 hW _ hwt hL _
  have hval : ∀ (j : Nat) t v, Tryz.f6.params[j]? = some t → args[j]? = some v → Value.okWide Tryz.prog W .any base t v := hval0
  have hW' := hW
  obtain ⟨p, q, hA0, hV, rfl, hfz, hnd⟩ := hW
  have hA : DataW.TrodAll enc Tryz.prog W 0 (fun _ => true) true Tryz.f6.params.toList args.toList ds p := hA0
  rw [Tryz.params6] at hA hval
  obtain ⟨v0, vs0, d0, ds0, p0, q0, hargs, rfl, rfl, h0, r0⟩ := trodAll_cons hA
  obtain ⟨v1, vs1, d1, ds1, p1, q1, rfl, rfl, rfl, h1, r1⟩ := trodAll_cons r0
  obtain ⟨rfl, rfl, rfl⟩ := trodAll_nil r1
  obtain rfl : args = #[v0, v1] := by cases args; simp_all
  obtain ⟨rfl, rfl⟩ := trodVars_none hV
  have lt0 : ∀ x ∈ p0, x.block < W.heap.size := by obtain ⟨m, hm⟩ := h0; exact DataW.trod_lt m _ _ _ hm
  have lt1 : ∀ x ∈ p1, x.block < W.heap.size := by obtain ⟨m, hm⟩ := h1; exact DataW.trod_lt m _ _ _ hm
  have k0' := h0
  have k1' := h1
  obtain ⟨cs0, rfl, _⟩ := okWide_struct Tryz.underlying32 (hval 0 32 v0 rfl rfl)
  obtain ⟨m0, hm0⟩ := h0
  obtain ⟨y0, a0, n0, c0, e0, S0⟩ := open_watch (cs := cs0.toList) (by simpa [Value.cells] using hm0)
  obtain rfl : cs0 = (wtC y0.pub a0 n0 c0).toArray := by rw [← e0]
  clear hm0 e0
  obtain ⟨cs1, rfl, _⟩ := okWide_struct Tryz.underlying32 (hval 1 32 v1 rfl rfl)
  obtain ⟨m1, hm1⟩ := h1
  obtain ⟨y1, a1, n1, c1, e1, S1⟩ := open_watch (cs := cs1.toList) (by simpa [Value.cells] using hm1)
  obtain rfl : cs1 = (wtC y1.pub a1 n1 c1).toArray := by rw [← e1]
  clear hm1 e1
  have hT := tabs_of_laid hL
  clear hA0 hval0
  refine (geither_walk y0 a0 n0 c0 y1 a1 n1 c1 W hT S0 S1).mono fun e W' ⟨he, bel⟩ => ?_
  subst he
  exact ⟨_, rfl, _, _, _, [], _, [], hW', trodAll_mk1 (shut_bool Tryz.underlying4 _),
    (trodAll_cons_mk (Below.trod laidOut (by kernel_rfl) (of_decide_eq_true (by kernel_rfl)) k0' bel lt0) (trodAll_cons_mk (Below.trod laidOut (by kernel_rfl) (of_decide_eq_true (by kernel_rfl)) k1' bel lt1) trodAll_mk0)), rfl, bel.frame _, fun h => by cases h⟩

theorem over : Rows.GossipEitherSaid :=
  OpenClaim.holds_of_wide 6 Tryz.f6 rfl rfl rfl rfl rfl rfl rfl ⟨rfl, rfl, rfl, rfl, rfl⟩ rfl rfl rfl rfl rfl (by kernel_rfl) Tryz.func6 (by kernel_rfl)
    (of_decide_eq_true (by kernel_rfl)) (by unfold Func.isWrapper; first | (rw [if_pos (by decide +kernel)]; kernel_rfl) | (rw [if_neg (by decide +kernel)]; exact ⟨rfl, rfl⟩))
    (fun os started H enc _ => lifted os started H enc)

theorem proved : Rows.GossipEitherCardSaid :=
  Claim7.holds_tied_plain_at .later [] [.data, .data, .sentinel] true (true, "c578d5295a2e4adb68b76fd72e8b48f6cb8355a5e326fb92d1d1f12a6d59b363") false
    over (fun _ h => by cases h) (by kernel_rfl) (fun _ h => by cases h) gossipEither_row_tie rfl ⟨rfl, rfl⟩ (by kernel_rfl) rfl
    (fun f fn hf hfn => by
      obtain rfl : f = 6 := Option.some.inj ((show Tryz.prog.funcNamed "chartroom/chartroomlaw36.GossipEither" = some 6 by kernel_rfl).symm.trans hf) |>.symm
      obtain rfl : fn = Tryz.f6 := (Option.some.inj (Tryz.func6.symm.trans hfn)).symm
      exact ⟨by kernel_rfl, fun j t ht => by
        rw [Tryz.params6] at ht
        have hm : t ∈ [32, 32] := by simpa using Array.mem_of_getElem? ht
        have hall : ([32, 32].all fun u => !Tryz.prog.wantsStandIn u) = true := by kernel_rfl
        exact (show Tryz.prog.wantsStandIn t = false by simpa using List.all_eq_true.1 hall t hm)⟩)
    (by kernel_rfl)
#print axioms proved
end Go.Proofs.YthnfjkgiaanmhaaGreatDoor.lawGEither
