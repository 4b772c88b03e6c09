/- directory.leaf, pair, message, ID, Signed -/
import Derived.Test.YtlpgjdlkjahdgaaGreatDoorBu2
import Derived.Test.YtlpgjdlkjahdgaaGreatDoorRwR
import Derived.Deep.RegionHeld3
namespace Go.Proofs.YtlpgjdlkjahdgaaGreatDoor
open Go.RowKit Go.Mem
open Go.Dr (Lst Rt)

theorem ints1 (W : World) (x : Int) : Blk (W.alloc (.cells #[.int .i64 x] 3)) W.heap.size 3 (iv [x]) := Blk.new W 3 [.int .i64 x]
theorem ints4 (W : World) (x y z u : Int) : Blk (W.alloc (.cells #[.int .i64 x, .int .i64 y, .int .i64 z, .int .i64 u] 3)) W.heap.size 3 (iv [x, y, z, u]) := Blk.new W 3 [.int .i64 x, .int .i64 y, .int .i64 z, .int .i64 u]

set_option maxRecDepth 20000 in
set_option maxHeartbeats 2000000 in
theorem leaf_any (x : Lst) (hx : OkG x) (no : Bool) (w : World) (HT : Tabs w) :
    Calls Tryz.prog 219 #[.agg (gC x).toArray, .bool no] w (DigPost (Go.Dr.leafOf x no) w) := by
  have HT' := Lib.hid HT
  clear HT
  obtain ⟨tb, htb⟩ : ∃ tb, Hid (w.heap.size = tb) := ⟨_, rfl⟩
  go_enter Tryz.func219, Tryz.ntmps219
  go_upto_region 2 with fail
  rw [htb.out]
  generalize hW : World.alloc _ _ = W
  have hX : Blk W tb 118 (gC x) := by rw [← hW, ← htb.out]; exact ((Blk.new w _ (gC x)).alloc _).alloc _
  have hD : Hid (Blk W (tb + 1) 43 (bv (List.replicate 32 0))) := by
    rw [← hW, ← htb.out]
    have := zero_dig (w.alloc (.cells (gC x).toArray 118))
    rw [World.size_alloc] at this
    exact this.alloc _
  have hI : Hid (IB (tb + 1 + 1) (tb + 1 + 1) [] W) := by
    rw [← hW, ← htb.out]
    have := IB.new ((w.alloc (.cells (gC x).toArray 118)).alloc (.cells (bv (List.replicate 32 0)).toArray 43))
    rw [World.size_alloc, World.size_alloc] at this
    exact this
  have hb : Hid (Below w.heap.size w W) := by rw [← hW]; exact (((Below.refl _ w).alloc (Nat.le_refl _) _).alloc (by simp) _).alloc (by simp; omega) _
  have hs : W.heap.size = tb + 1 + 1 + 1 := by rw [← hW, ← htb.out]; simp
  clear hW
  have c0 := hX.at_ (i := 0) (x := .int .i64 x.dev) rfl
  have hX' := Lib.hid hX
  have hx' := Lib.hid hx
  clear hX hx
  have i1 : Hid (Blk (W.alloc (.cells #[.int .i64 x.dev] 3)) (tb + 1 + 1 + 1) 3 (iv [x.dev])) := by rw [← hs]; exact ints1 W x.dev
  have hs' := Lib.hid hs
  cases no with
  | true =>
    go_wp2_with fail
    refine (numbers_any (tb + 1 + 1) (tb + 1 + 1) [] (tb + 1 + 1 + 1) 1 1 [x.dev] _ (hI.out.alloc _) (by rw [World.size_alloc]; omega) i1.out (by omega) rfl (by omega) (by omega) (by omega) (by intro u hu; rw [List.mem_singleton] at hu; subst hu; exact hx'.out.dev) (by simp)).mono ?_
    rintro e w1 ⟨rfl, hI1, hF1⟩
    have hb1 : Hid (Below w.heap.size w w1) := (hb.out.alloc hb.out.size _).trans (hF1.bel.mono (by have := htb.out; omega))
    have hD1 := Lib.hid (Blk.below (hD.out.alloc _) hF1.bel (by omega))
    have hI1' := Lib.hid hI1
    clear hI1 hF1 hI hX' hD hb i1 c0 hs
    go_wp2_with fail
    refine (under_any ⟨#[101, 109, 112, 116, 121]⟩ (by decide) _ _ _ w1 (HT'.out.below hb1.out) hI1'.out (by simp [numsB, numB_length])).mono ?_
    rintro e W8 ⟨rfl, hb8⟩
    have hD8 := Blk.below hD1.out hb8 hD1.out.lt
    have hb8' := hb1.out.trans (hb8.mono hb1.out.size)
    have hfin : Sha.tagged (octets ⟨#[101, 109, 112, 116, 121]⟩) ([] ++ numsB [x.dev]) = Go.Dr.leafOf x true := by
      rw [show numsB [x.dev] = numB x.dev by simp [numsB]]; rfl
    rw [hfin]
    obtain ⟨W9, hP, hpost⟩ := ret_dig (D := Go.Dr.leafOf x true) hD8 (by simp) (Sha.tagged_length _ _) hb8' (by have := htb.out; omega)
    have hP' := Lib.hid hP; have hpost' := Lib.hid hpost
    clear hP hpost hb8' hD8 hb8 hD1 hb1 hI1' hfin
    generalize bv (Go.Dr.leafOf x true) = RES at *
    go_wp2_with (refine wpList_store_mid (by rfl) 43 (.tmp 4) (.tmp 11) (by rfl) (tb + 1) 0 RES.toArray (by rfl) (by rfl) hP'.out.there hP'.out.info (by simpa using hP'.out.one) ?_)
    generalize hW9 : World.setCells _ _ _ _ = Wa
    obtain rfl : W9 = Wa := by rw [← hW9]; exact hP'.out.eq
    exact bodyPost_ret (results_cell_row rfl _ _ (tb + 1) 43 RES.toArray (0, 0) _ rfl hP'.out.blk Tryz.underlying43 rfl hP'.out.info) rfl hpost'.out
  | false =>
    have c1 := hX'.out.at_ (i := 1) (x := .int .i64 x.ver) rfl
    have c2 := hX'.out.at_ (i := 2) (x := .int .i64 x.leaf) rfl
    have c3 := hX'.out.at_ (i := 3) (x := .int .i64 x.vers) rfl
    have i4 : Hid (Blk (W.alloc (.cells #[.int .i64 x.dev, .int .i64 x.ver, .int .i64 x.leaf, .int .i64 x.vers] 3)) (tb + 1 + 1 + 1) 3 (iv [x.dev, x.ver, x.leaf, x.vers])) := by rw [← hs]; exact ints4 W _ _ _ _
    go_wp2_with fail
    refine (numbers_any (tb + 1 + 1) (tb + 1 + 1) [] (tb + 1 + 1 + 1) 4 4 [x.dev, x.ver, x.leaf, x.vers] _ (hI.out.alloc _) (by rw [World.size_alloc]; omega) i4.out (by omega) rfl (by omega) (by omega) (by omega) (by
      intro u hu
      have ho := hx'.out
      simp only [List.mem_cons, List.not_mem_nil, or_false] at hu
      rcases hu with rfl | rfl | rfl | rfl
      · exact ho.dev
      · exact ho.ver
      · exact ho.leaf
      · exact ho.vers) (by simp)).mono ?_
    rintro e w1 ⟨rfl, hI1, hF1⟩
    have hb1 : Hid (Below w.heap.size w w1) := (hb.out.alloc hb.out.size _).trans (hF1.bel.mono (by have := htb.out; omega))
    have hD1 := Lib.hid (Blk.below (hD.out.alloc _) hF1.bel (by omega))
    have hX1 := Blk.below (hX'.out.alloc _) hF1.bel (by omega)
    have hz1 : tb + 1 + 1 ≤ w1.heap.size := Nat.le_trans (by rw [World.size_alloc]; omega) hF1.bel.size
    have hI1' := Lib.hid hI1
    have c4 := hX1.at_ (i := 4) (x := .bool x.gone) rfl
    clear hI1 hF1 hI hX' hD hb i1 i4 c0 c1 c2 c3 hs hX1
    have hlen : Hid (([] ++ numsB [x.dev, x.ver, x.leaf, x.vers]).length = 32) := by show _ = _; simp [numsB, numB_length]
    have hb2 := Lib.hid (fun (y z : Int) (e : z % 256 = y) => e ▸ writeByte_any (tb + 1 + 1) (tb + 1 + 1) _ z w1 hI1'.out hz1 (by rw [hlen.out]; omega))
    have hnums : Hid ([] ++ numsB [x.dev, x.ver, x.leaf, x.vers] = Go.Dr.num8 x.dev ++ Go.Dr.num8 x.ver ++ Go.Dr.num8 x.leaf ++ Go.Dr.num8 x.vers) := by
      show _ = _
      simp only [numsB, List.map_cons, List.map_nil, List.flatten_cons, List.flatten_nil, List.append_nil, List.nil_append, List.append_assoc]
      rfl
    obtain ⟨g, hg⟩ : ∃ g, Hid (x.gone = g) := ⟨_, rfl⟩
    rw [hg.out] at c4
    cases g
    · go_wp2_with fail
      refine (hb2.out 0 0 rfl).mono ?_
      rintro e w3 ⟨rfl, hI3, hF3⟩
      have hb3 : Hid (Below w.heap.size w w3) := hb1.out.trans (hF3.bel.mono (by have := htb.out; omega))
      have hD3 := Lib.hid (Blk.below hD1.out hF3.bel (by omega))
      have hI3' := Lib.hid hI3
      clear hI3 hF3 hI1' hD1 hb1 hb2 c4
      go_wp2_with fail
      refine (under_any ⟨#[108, 105, 115, 116, 105, 110, 103]⟩ (by decide) _ _ _ w3 (HT'.out.below hb3.out) hI3'.out (by rw [List.length_append, hlen.out]; decide)).mono ?_
      rintro e W8 ⟨rfl, hb8⟩
      have hfin : Sha.tagged (octets ⟨#[108, 105, 115, 116, 105, 110, 103]⟩) ([] ++ numsB [x.dev, x.ver, x.leaf, x.vers] ++ [Int.toNat 0]) = Go.Dr.leafOf x false := by
        rw [hnums.out]; unfold Go.Dr.leafOf Go.Dr.listD; rw [hg.out]; rfl
      have hD8 := Blk.below hD3.out hb8 hD3.out.lt
      have hb8' := hb3.out.trans (hb8.mono hb3.out.size)
      rw [hfin]
      obtain ⟨W9, hP, hpost⟩ := ret_dig (D := Go.Dr.leafOf x false) hD8 (by simp) (Sha.tagged_length _ _) hb8' (by have := htb.out; omega)
      have hP' := Lib.hid hP; have hpost' := Lib.hid hpost
      clear hP hpost hb8' hD8 hb8 hD3 hb3 hI3' hfin
      generalize bv (Go.Dr.leafOf x false) = RES at *
      go_wp2_with (refine wpList_store_mid (by rfl) 43 (.tmp 4) (.tmp 28) (by rfl) (tb + 1) 0 RES.toArray (by rfl) (by rfl) hP'.out.there hP'.out.info (by simpa using hP'.out.one) ?_)
      generalize hW9 : World.setCells _ _ _ _ = Wa
      obtain rfl : W9 = Wa := by rw [← hW9]; exact hP'.out.eq
      exact bodyPost_ret (results_cell_row rfl _ _ (tb + 1) 43 RES.toArray (0, 0) _ rfl hP'.out.blk Tryz.underlying43 rfl hP'.out.info) rfl hpost'.out
    · go_wp2_with fail
      refine (hb2.out 1 1 rfl).mono ?_
      rintro e w3 ⟨rfl, hI3, hF3⟩
      have hb3 : Hid (Below w.heap.size w w3) := hb1.out.trans (hF3.bel.mono (by have := htb.out; omega))
      have hD3 := Lib.hid (Blk.below hD1.out hF3.bel (by omega))
      have hI3' := Lib.hid hI3
      clear hI3 hF3 hI1' hD1 hb1 hb2 c4
      go_wp2_with fail
      refine (under_any ⟨#[108, 105, 115, 116, 105, 110, 103]⟩ (by decide) _ _ _ w3 (HT'.out.below hb3.out) hI3'.out (by rw [List.length_append, hlen.out]; decide)).mono ?_
      rintro e W8 ⟨rfl, hb8⟩
      have hfin : Sha.tagged (octets ⟨#[108, 105, 115, 116, 105, 110, 103]⟩) ([] ++ numsB [x.dev, x.ver, x.leaf, x.vers] ++ [Int.toNat 1]) = Go.Dr.leafOf x false := by
        rw [hnums.out]; unfold Go.Dr.leafOf Go.Dr.listD; rw [hg.out]; rfl
      have hD8 := Blk.below hD3.out hb8 hD3.out.lt
      have hb8' := hb3.out.trans (hb8.mono hb3.out.size)
      rw [hfin]
      obtain ⟨W9, hP, hpost⟩ := ret_dig (D := Go.Dr.leafOf x false) hD8 (by simp) (Sha.tagged_length _ _) hb8' (by have := htb.out; omega)
      have hP' := Lib.hid hP; have hpost' := Lib.hid hpost
      clear hP hpost hb8' hD8 hb8 hD3 hb3 hI3' hfin
      generalize bv (Go.Dr.leafOf x false) = RES at *
      go_wp2_with (refine wpList_store_mid (by rfl) 43 (.tmp 4) (.tmp 28) (by rfl) (tb + 1) 0 RES.toArray (by rfl) (by rfl) hP'.out.there hP'.out.info (by simpa using hP'.out.one) ?_)
      generalize hW9 : World.setCells _ _ _ _ = Wa
      obtain rfl : W9 = Wa := by rw [← hW9]; exact hP'.out.eq
      exact bodyPost_ret (results_cell_row rfl _ _ (tb + 1) 43 RES.toArray (0, 0) _ rfl hP'.out.blk Tryz.underlying43 rfl hP'.out.info) rfl hpost'.out
end Go.Proofs.YtlpgjdlkjahdgaaGreatDoor
