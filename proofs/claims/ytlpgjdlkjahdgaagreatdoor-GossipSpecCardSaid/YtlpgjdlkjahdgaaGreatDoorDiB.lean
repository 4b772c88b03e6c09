/- directory.pair, message, ID, Signed -/
import Derived.Test.YtlpgjdlkjahdgaaGreatDoorAl
import Derived.Test.YtlpgjdlkjahdgaaGreatDoorDiA
import Derived.Test.YtlpgjdlkjahdgaaGreatDoorDgs
namespace Go.Proofs.YtlpgjdlkjahdgaaGreatDoor
open Go.RowKit Go.Mem
open Go.Dr (Lst Rt)

set_option maxRecDepth 20000 in
set_option maxHeartbeats 2000000 in
theorem pair_any (a c : List Nat) (ha : a.length = 32) (hc : c.length = 32) (hal : ∀ u ∈ a, u < 256) (hcl : ∀ u ∈ c, u < 256) (w : World) (HT : Tabs w) :
 Calls Tryz.prog 220 #[.agg (bv a).toArray, .agg (bv c).toArray] w (DigPost (Go.Dr.pairD a c) w) := by
 have HT' := Lib.hid HT
 clear HT
 obtain ⟨tb, htb⟩ : ∃ tb, Hid (w.heap.size = tb) := ⟨_, rfl⟩
 go_enter Tryz.func220, Tryz.ntmps220
 go_upto_region 2 with fail
 rw [htb.out]
 generalize hW : World.alloc _ _ = W
 have hX : Hid (Blk W tb 43 (bv a)) := by rw [← hW, ← htb.out]; exact (((Blk.new w _ (bv a)).alloc _).alloc _).alloc _
 have hY : Hid (Blk W (tb + 1) 43 (bv c)) := by
  rw [← hW, ← htb.out]
  have := Blk.new (w.alloc (.cells (bv a).toArray 43)) 43 (bv c)
  rw [World.size_alloc] at this
  exact (this.alloc _).alloc _
 have hD : Hid (Blk W (tb + 1 + 1) 43 (bv (List.replicate 32 0))) := by
  rw [← hW, ← htb.out]
  have := zero_dig ((w.alloc (.cells (bv a).toArray 43)).alloc (.cells (bv c).toArray 43))
  rw [World.size_alloc, World.size_alloc] at this
  exact this.alloc _
 have hI : Hid (IB (tb + 1 + 1 + 1) (tb + 1 + 1 + 1) [] W) := by
  rw [← hW, ← htb.out]
  have := IB.new (((w.alloc (.cells (bv a).toArray 43)).alloc (.cells (bv c).toArray 43)).alloc (.cells (bv (List.replicate 32 0)).toArray 43))
  rw [World.size_alloc, World.size_alloc, World.size_alloc] at this
  exact this
 have hb : Hid (Below w.heap.size w W) := by rw [← hW]; exact ((((Below.refl _ w).alloc (Nat.le_refl _) _).alloc (by simp) _).alloc (by simp; omega) _).alloc (by simp; omega) _
 have hs : Hid (W.heap.size = tb + 1 + 1 + 1 + 1) := by rw [← hW, ← htb.out]; show _ = _; simp
 clear hW
 have hr1 := Lib.hid hX.out.range
 have hr2 := Lib.hid hY.out.range
 have hbs := Lib.hid (dig_slice2 ha hc)
 have hal' : Hid ((Tryz.prog.info? 43).map (·.size) = some (bv a).length) := by show _ = _; rw [bv_length, ha]; exact size35
 have hcl' : Hid ((Tryz.prog.info? 43).map (·.size) = some (bv c).length) := by show _ = _; rw [bv_length, hc]; exact size35
 have i2 : Hid (Blk (W.alloc (.cells ([a, c].map bv).flatten.toArray 43)) (tb + 1 + 1 + 1 + 1) 43 ([a, c].map bv).flatten) := by rw [← hs.out]; exact Blk.new W _ _
 obtain ⟨RR, hRR⟩ : ∃ R, Hid (([a, c].map bv).flatten = R) := ⟨_, rfl⟩
 rw [hRR.out] at hbs i2
 go_wp2_with (first
  | (refine wpList_load_mid (by rfl) 43 (.tmp 2) (by rfl) tb 0 (by rfl) (bv a) _ hr1.out Tryz.underlying43 (by rfl) hal'.out ?_)
   | (refine wpList_load_mid (by rfl) 43 (.tmp 3) (by rfl) (tb + 1) 0 (by rfl) (bv c) _ hr2.out Tryz.underlying43 (by rfl) hcl'.out ?_)
   | (refine wpList_buildSlice_run (by rfl) 58 2 _ rfl #[(0, .agg (bv a).toArray), (1, .agg (bv c).toArray)] (by simp only [List.map_toArray, List.map_cons, List.map_nil]; rfl) (hbs.out _) ?_))
 rw [hs.out]
 rw [← hRR.out] at i2 ⊢
 refine (digests_any (tb + 1 + 1 + 1) (tb + 1 + 1 + 1) [] (tb + 1 + 1 + 1 + 1) 2 2 [a, c] _ (hI.out.alloc _) (by rw [World.size_alloc, hs.out]; omega) i2.out (by omega) rfl (by omega) (by omega) (by omega) (by
  intro u hu
  simp only [List.mem_cons, List.not_mem_nil, or_false] at hu
  rcases hu with rfl | rfl
  · exact ha
  · exact hc) (by
  intro u hu
  simp only [List.mem_cons, List.not_mem_nil, or_false] at hu
  rcases hu with rfl | rfl
  · exact hal
  · exact hcl) (by simp)).mono ?_
 rintro e w1 ⟨rfl, hI1, hF1⟩
 have hb1 : Hid (Below w.heap.size w w1) := (hb.out.alloc hb.out.size _).trans (hF1.bel.mono (by have := htb.out; omega))
 have hD1 := Lib.hid (Blk.below (hD.out.alloc _) hF1.bel (by omega))
 have hI1' := Lib.hid hI1
 clear hI1 hF1 hI hX hY hD hb i2 hr1 hr2 hbs
 go_wp2_with fail
 refine (under_any ⟨#[112, 97, 105, 114]⟩ (by decide) _ _ _ w1 (HT'.out.below hb1.out) hI1'.out (by simp; omega)).mono ?_
 rintro e W8 ⟨rfl, hb8⟩
 have hD8 := Blk.below hD1.out hb8 hD1.out.lt
 have hb8' := hb1.out.trans (hb8.mono hb1.out.size)
 have hfin : Sha.tagged (octets ⟨#[112, 97, 105, 114]⟩) ([] ++ [a, c].flatten) = Go.Dr.pairD a c := by
  rw [List.nil_append, List.flatten_cons, List.flatten_cons, List.flatten_nil, List.append_nil]; rfl
 rw [hfin]
 obtain ⟨W9, hP, hpost⟩ := ret_dig (D := Go.Dr.pairD a c) hD8 (by simp) (Sha.tagged_length _ _) hb8' (by have := htb.out; omega)
 have hP' := Lib.hid hP; have hpost' := Lib.hid hpost
 clear hP hpost hb8' hD8 hb8 hD1 hb1 hI1' hfin
 generalize bv (Go.Dr.pairD a c) = RES at *
 go_wp2_with (refine wpList_store_mid (by rfl) 43 (.tmp 4) (.tmp 10) (by rfl) (tb + 1 + 1) 0 RES.toArray (by rfl) (by rfl) hP'.out.there hP'.out.info (by simpa using hP'.out.one) ?_)
 generalize hW9 : World.setCells _ _ _ _ = Wa
 obtain rfl : W9 = Wa := by rw [← hW9]; exact hP'.out.eq
 exact bodyPost_ret (results_cell_row rfl _ _ (tb + 1 + 1) 43 RES.toArray (0, 0) _ rfl hP'.out.blk Tryz.underlying43 rfl hP'.out.info) rfl hpost'.out

def MsgW (w : World) (tb : Nat) (x : Rt) (wz : World) : Prop := Blk wz tb 62 (rC x) ∧ tb + 1 < wz.heap.size ∧ Below w.heap.size w wz
section
variable {w wz wq : World} {tb : Nat} {x : Rt}
theorem rC_dig {x : Rt} : ∀ {j : Nat} {u : Value}, (bv x.dig)[j]? = some u → (rC x)[1 + j]? = some u := fun {j u} h => by
 rw [rC, Nat.add_comm, List.getElem?_cons_succ, List.getElem?_append_left (List.getElem?_eq_some_iff.1 h).1]; exact h
theorem rC_prev {x : Rt} (hx : x.dig.length = 32) : ∀ {j : Nat} {u : Value}, (bv x.prev)[j]? = some u → (rC x)[33 + j]? = some u := fun {j u} h => by
 rw [rC, show 33 + j = (32 + j) + 1 by omega, List.getElem?_cons_succ, List.getElem?_append_right (by rw [bv_length, hx]; omega), bv_length, hx, show 32 + j - 32 = j by omega, List.getElem?_append_left (List.getElem?_eq_some_iff.1 h).1]
 exact h
theorem rC_r {x : Rt} (hx : OkQ x) : (rC x)[65]? = some (.int .i64 x.r) := by
 rw [rC, List.getElem?_cons_succ, List.getElem?_append_right (by rw [bv_length, hx.dig]; omega), List.getElem?_append_right (by rw [bv_length, bv_length, hx.dig, hx.prev]; omega), bv_length, bv_length, hx.dig, hx.prev]; rfl
theorem rC_s {x : Rt} (hx : OkQ x) : (rC x)[66]? = some (.int .i64 x.s) := by
 rw [rC, List.getElem?_cons_succ, List.getElem?_append_right (by rw [bv_length, hx.dig]; omega), List.getElem?_append_right (by rw [bv_length, bv_length, hx.dig, hx.prev]; omega), bv_length, bv_length, hx.dig, hx.prev]; rfl
theorem MsgW.both (hx : OkQ x) (h : MsgW w tb x wz) : wz.cell? ⟨tb, 0, none⟩ = some (.int .i64 x.no) ∧ wz.rangeAt tb 1 (bv x.dig) ∧ wz.rangeAt tb 33 (bv x.prev) ∧ MsgW w tb x wz :=
 ⟨h.1.at_ rfl, fun _ _ hj => h.1.at_ (rC_dig hj), fun _ _ hj => h.1.at_ (rC_prev hx.dig hj), h⟩
theorem MsgW.next (hb : Below (tb + 1) wz wq) (hw : w.heap.size ≤ tb) (h : MsgW w tb x wz) : MsgW w tb x wq := ⟨h.1.below hb (by omega), Nat.lt_of_lt_of_le h.2.1 hb.size, h.2.2.trans (hb.mono (by omega))⟩
theorem MsgW.drew (h : MsgW w tb x wz) : MsgW w tb x wz.drew := ⟨h.1, h.2.1, h.2.2.drew⟩
theorem MsgW.alloc (h : MsgW w tb x wz) (o : Obj) : MsgW w tb x (wz.alloc o) := ⟨h.1.alloc o, Nat.lt_of_lt_of_le h.2.1 (by simp), h.2.2.alloc h.2.2.size o⟩
theorem MsgW.big (h : MsgW w tb x wz) : tb + 1 ≤ wz.heap.size := Nat.le_of_lt h.2.1
theorem MsgW.drewB (h : wz.cell? ⟨tb, 0, none⟩ = some (.int .i64 x.no) ∧ wz.rangeAt tb 1 (bv x.dig) ∧ wz.rangeAt tb 33 (bv x.prev) ∧ MsgW w tb x wz) : wz.drew.cell? ⟨tb, 0, none⟩ = some (.int .i64 x.no) ∧ wz.drew.rangeAt tb 1 (bv x.dig) ∧ wz.drew.rangeAt tb 33 (bv x.prev) ∧ MsgW w tb x wz.drew := ⟨h.1, h.2.1, h.2.2.1, h.2.2.2.1, h.2.2.2.2.1, h.2.2.2.2.2.drew⟩
theorem MsgW.allocB (hx : OkQ x) (h : wz.cell? ⟨tb, 0, none⟩ = some (.int .i64 x.no) ∧ wz.rangeAt tb 1 (bv x.dig) ∧ wz.rangeAt tb 33 (bv x.prev) ∧ MsgW w tb x wz) (o : Obj) : (wz.alloc o).cell? ⟨tb, 0, none⟩ = some (.int .i64 x.no) ∧ (wz.alloc o).rangeAt tb 1 (bv x.dig) ∧ (wz.alloc o).rangeAt tb 33 (bv x.prev) ∧ MsgW w tb x (wz.alloc o) :=
 MsgW.both hx ⟨h.2.2.2.1.alloc o, Nat.lt_of_lt_of_le h.2.2.2.2.1 (by simp), h.2.2.2.2.2.alloc h.2.2.2.2.2.size o⟩
end

def BufPost (bs : List Nat) (w : World) (e : Ending) (w' : World) : Prop := ∃ b, e = .returned (.pointer (some ⟨b, 0, none⟩)) ∧ w.heap.size ≤ b ∧ IB w.heap.size b bs w' ∧ Below w.heap.size w w'

set_option maxRecDepth 20000 in
set_option maxHeartbeats 4000000 in
theorem message_any (x : Rt) (hx : OkQ x) (w : World) :
 Calls Tryz.prog 171 #[.agg (rC x).toArray] w (BufPost (Go.Dr.msgR x) w) := by
 obtain ⟨tb, htb⟩ : ∃ tb, Hid (w.heap.size = tb) := ⟨_, rfl⟩
 go_enter Tryz.func171, Tryz.ntmps171
 go_upto_region 2 with fail
 rw [htb.out]
 generalize hW : World.alloc _ _ = W
 have hI : IB (tb + 1) (tb + 1) [] W := by
  rw [← hW, ← htb.out]
  have := IB.new (w.alloc (.cells (rC x).toArray 62))
  rw [World.size_alloc] at this
  exact this
 have hs : Hid (W.heap.size = tb + 1 + 1) := by rw [← hW, ← htb.out]; show _ = _; simp
 have hM : MsgW w tb x W := ⟨by rw [← hW, ← htb.out]; exact (Blk.new w _ (rC x)).alloc _, by rw [hs.out]; omega, by rw [← hW]; exact ((Below.refl _ w).alloc (Nat.le_refl _) _).alloc (by simp) _⟩
 have hle : w.heap.size ≤ tb := Nat.le_of_eq htb.out
 clear hW
 have hSq := hM.both hx
 have hns : ∀ u ∈ [x.no], I64 u := by intro u hu; rw [List.mem_singleton] at hu; subst hu; exact hx.no
 have hd32 : ∀ d ∈ [x.dig, x.prev], d.length = 32 := by
  intro u hu
  simp only [List.mem_cons, List.not_mem_nil, or_false] at hu
  rcases hu with rfl | rfl
  · exact hx.dig
  · exact hx.prev
 have hdl : ∀ d ∈ [x.dig, x.prev], ∀ u ∈ d, u < 256 := by
  intro u hu
  simp only [List.mem_cons, List.not_mem_nil, or_false] at hu
  rcases hu with rfl | rfl
  · exact hx.digl
  · exact hx.prevl
 have hbs := dig_slice2 hx.dig hx.prev
 obtain ⟨RR, hRR⟩ : ∃ R, Hid (([x.dig, x.prev].map bv).flatten = R) := ⟨_, rfl⟩
 rw [hRR.out] at hbs
 have hn1 := Lib.hid (fun g W2 h1 h2 h3 h4 => numbers_any (tb + 1) (tb + 1) [] g 1 1 [x.no] W2 h1 h2 h3 h4 rfl (by omega) (by omega) (by omega) hns (by simp))
 have hn2 := Lib.hid (fun g W2 h1 h2 h3 h4 => digests_any (tb + 1) (tb + 1) ([] ++ numsB [x.no]) g 2 2 [x.dig, x.prev] W2 h1 h2 h3 h4 rfl (by omega) (by omega) (by omega) hd32 hdl (by simp [numsB, numB_length]))
 rw [hRR.out] at hn2
 have hx' := Lib.hid hx
 have u35 := Tryz.underlying43
 have z1 : (Tryz.prog.info? 43).map (·.size) = some (bv x.dig).length := by rw [bv_length, hx.dig]; exact size35
 have z2 : (Tryz.prog.info? 43).map (·.size) = some (bv x.prev).length := by rw [bv_length, hx.prev]; exact size35
 clear hdl hd32 hns hx
 have hI' : IB (tb + 1) (tb + 1) [] W.drew := hI.drew
 have hM' : MsgW w tb x W.drew := hM.drew
 clear hI
 have hI := hI'
 clear hI'
 have hfin : Hid (∀ Wz, IB (tb + 1) (tb + 1) ([] ++ numsB [x.no] ++ [x.dig, x.prev].flatten) Wz → Below w.heap.size w Wz → BufPost (Go.Dr.msgR x) w (.returned (.pointer (some ⟨tb + 1, 0, none⟩))) Wz) := fun Wz h1 h2 =>
  ⟨tb + 1, rfl, by omega, (h1.mono (by omega)).of_eq (by simp [numsB, Go.Dr.msgR]; rfl), h2⟩
 refine wp_region_held_drew (S := fun wz => MsgW w tb x wz) (by kernel_rfl) (hM.drew) (fun hHeld => ?_)
 generalize W.drew = W0 at *
 refine tX 0 rfl (fun wz hSw => (MsgW.both hx'.out hSw).1) hHeld ?_
 refine tX 1 rfl (fun wz hSw => (MsgW.both hx'.out hSw).1) hHeld ?_
 refine tQ 4 rfl hHeld ?_
 refine tY 5 rfl tb 1 (bv x.dig) (fun wz h => (MsgW.both hx'.out h).2.1) Tryz.underlying43 z1 hHeld ?_
 refine tQ 6 rfl hHeld ?_
 refine tY 7 rfl tb 33 (bv x.prev) (fun wz h => (MsgW.both hx'.out h).2.2.1) Tryz.underlying43 z2 hHeld ?_
 refine rd (rs := [2, 8]) ?_
 refine tR rfl (fun K hK => ?_) (tR rfl (fun K hK => ?_) rn)
 case refine_1 =>
  go_simp
  refine hK.out _ _ (hHeld.alloc _) (fun hHeld2 => ?_)
  clear hK K hHeld
  try simp only [Act.put, sA, s0, s1]
  have i1 : Blk (World.alloc W0 (.cells (iv [x.no] : List Value).toArray 3)) W0.heap.size 3 (iv [x.no]) := Blk.new _ _ _
  have I1 := hI.alloc (.cells (iv [x.no] : List Value).toArray 3)
  have hHeld : MsgW w tb x (World.alloc W0 (.cells (iv [x.no] : List Value).toArray 3)) := hHeld2
  clear hHeld2
  have e1 : W0.heap.size ≠ tb + 1 := by have := hI.lt'; omega
  change wpAnyH _ _ _ _ _ _ _ _ (World.alloc W0 (.cells (iv [x.no]).toArray 3))
  generalize W0.heap.size = g1 at *
  generalize World.alloc W0 (.cells (iv [x.no] : List Value).toArray 3) = V1 at *
  refine rd (rs := [3, 8]) ?_
  refine tR rfl (fun K hK => ?_) (tR rfl (fun K hK => ?_) rn)
  case refine_1 =>
   go_simp
   go_at_call 174
   refine (hn1.out g1 V1 I1 hHeld.big i1 e1).mono ?_
   rintro e V2 ⟨rfl, I2, F2⟩
   refine hK.out _ _ (hHeld.next F2.bel hle) (fun hHeld2 => ?_)
   clear hK K
   try simp only [Act.put, sA, s0, s1]
   have hHeld0 := hHeld
   clear hHeld
   have hHeld := hHeld2
   refine tO 8 rfl (fun K hK => ?_)
   refine wp_buildSlice_run 58 2 _ rfl #[(0, .agg (bv x.dig).toArray), (1, .agg (bv x.prev).toArray)] (by simp only [List.map_toArray, List.map_cons, List.map_nil]; rfl) (hbs _) ?_
   refine hK.out _ _ (hHeld.alloc _) (fun hHeld2 => ?_)
   clear hK K hHeld
   try simp only [Act.put, sA, s0, s1]
   have i3 : Blk (World.alloc V2 (.cells (RR : List Value).toArray 43)) V2.heap.size 43 (RR) := Blk.new _ _ _
   have I3 := I2.alloc (.cells (RR : List Value).toArray 43)
   have hHeld : MsgW w tb x (World.alloc V2 (.cells (RR : List Value).toArray 43)) := hHeld2
   clear hHeld2
   have e3 : V2.heap.size ≠ tb + 1 := by have := I2.lt'; omega
   generalize V2.heap.size = g3 at *
   generalize World.alloc V2 (.cells (RR : List Value).toArray 43) = V3 at *
   refine tO 9 rfl (fun K hK => ?_)
   go_simp
   go_at_call 208
   refine (hn2.out g3 V3 I3 hHeld.big i3 e3).mono ?_
   rintro e WF ⟨rfl, IF, FF⟩
   refine hK.out _ _ (hHeld.next FF.bel hle) (fun hHeldF => ?_)
   clear hK K
   try simp only [Act.put, sA, s0, s1]
   clear hHeld
   have hHeld := hHeldF
   refine tQ 10 rfl hHeld ?_
   refine wpAnyH_done (by kernel_rfl) ?_ _
   have hend := hfin.out _ IF hHeld.2.2
   go_wp2_with fail
   go_ret
   exact hend
  case refine_2 =>
   refine wp_buildSlice_run 58 2 _ rfl #[(0, .agg (bv x.dig).toArray), (1, .agg (bv x.prev).toArray)] (by simp only [List.map_toArray, List.map_cons, List.map_nil]; rfl) (hbs _) ?_
   refine hK.out _ _ (hHeld.alloc _) (fun hHeld2 => ?_)
   clear hK K hHeld
   try simp only [Act.put, sA, s0, s1]
   have i4 : Blk (World.alloc V1 (.cells (RR : List Value).toArray 43)) V1.heap.size 43 (RR) := Blk.new _ _ _
   have I4 := I1.alloc (.cells (RR : List Value).toArray 43)
   have hHeld : MsgW w tb x (World.alloc V1 (.cells (RR : List Value).toArray 43)) := hHeld2
   clear hHeld2
   have e4 : V1.heap.size ≠ tb + 1 := by have := I1.lt'; omega
   have i14 := i1.alloc (.cells (RR : List Value).toArray 43)
   generalize V1.heap.size = g4 at *
   generalize World.alloc V1 (.cells (RR : List Value).toArray 43) = V4 at *
   refine tO 3 rfl (fun K hK => ?_)
   go_simp
   go_at_call 174
   refine (hn1.out g1 V4 I4 hHeld.big i14 e1).mono ?_
   rintro e V5 ⟨rfl, I5, F5⟩
   refine hK.out _ _ (hHeld.next F5.bel hle) (fun hHeld2 => ?_)
   clear hK K
   try simp only [Act.put, sA, s0, s1]
   have hHeld0 := hHeld
   clear hHeld
   have hHeld := hHeld2
   have j5 := Blk.others i4 F5 e4 (by decide)
   refine tO 9 rfl (fun K hK => ?_)
   go_simp
   go_at_call 208
   refine (hn2.out g4 V5 I5 hHeld.big j5 e4).mono ?_
   rintro e WF ⟨rfl, IF, FF⟩
   refine hK.out _ _ (hHeld.next FF.bel hle) (fun hHeldF => ?_)
   clear hK K
   try simp only [Act.put, sA, s0, s1]
   clear hHeld
   have hHeld := hHeldF
   refine tQ 10 rfl hHeld ?_
   refine wpAnyH_done (by kernel_rfl) ?_ _
   have hend := hfin.out _ IF hHeld.2.2
   go_wp2_with fail
   go_ret
   exact hend
 case refine_2 =>
  refine wp_buildSlice_run 58 2 _ rfl #[(0, .agg (bv x.dig).toArray), (1, .agg (bv x.prev).toArray)] (by simp only [List.map_toArray, List.map_cons, List.map_nil]; rfl) (hbs _) ?_
  refine hK.out _ _ (hHeld.alloc _) (fun hHeld2 => ?_)
  clear hK K hHeld
  try simp only [Act.put, sA, s0, s1]
  have i6 : Blk (World.alloc W0 (.cells (RR : List Value).toArray 43)) W0.heap.size 43 (RR) := Blk.new _ _ _
  have I6 := hI.alloc (.cells (RR : List Value).toArray 43)
  have hHeld : MsgW w tb x (World.alloc W0 (.cells (RR : List Value).toArray 43)) := hHeld2
  clear hHeld2
  have e6 : W0.heap.size ≠ tb + 1 := by have := hI.lt'; omega
  generalize W0.heap.size = g6 at *
  generalize World.alloc W0 (.cells (RR : List Value).toArray 43) = V6 at *
  refine tO 2 rfl (fun K hK => ?_)
  go_simp
  refine hK.out _ _ (hHeld.alloc _) (fun hHeld2 => ?_)
  clear hK K hHeld
  try simp only [Act.put, sA, s0, s1]
  have i7 : Blk (World.alloc V6 (.cells (iv [x.no] : List Value).toArray 3)) V6.heap.size 3 (iv [x.no]) := Blk.new _ _ _
  have I7 := I6.alloc (.cells (iv [x.no] : List Value).toArray 3)
  have hHeld : MsgW w tb x (World.alloc V6 (.cells (iv [x.no] : List Value).toArray 3)) := hHeld2
  clear hHeld2
  have e7 : V6.heap.size ≠ tb + 1 := by have := I6.lt'; omega
  have i67 := i6.alloc (.cells (iv [x.no] : List Value).toArray 3)
  change wpAnyH _ _ _ _ _ _ _ _ (World.alloc V6 (.cells (iv [x.no]).toArray 3))
  generalize V6.heap.size = g7 at *
  generalize World.alloc V6 (.cells (iv [x.no] : List Value).toArray 3) = V7 at *
  refine tO 3 rfl (fun K hK => ?_)
  go_simp
  go_at_call 174
  refine (hn1.out g7 V7 I7 hHeld.big i7 e7).mono ?_
  rintro e V8 ⟨rfl, I8, F8⟩
  refine hK.out _ _ (hHeld.next F8.bel hle) (fun hHeld2 => ?_)
  clear hK K
  try simp only [Act.put, sA, s0, s1]
  have hHeld0 := hHeld
  clear hHeld
  have hHeld := hHeld2
  have j8 := Blk.others i67 F8 e6 (by decide)
  refine tO 9 rfl (fun K hK => ?_)
  go_simp
  go_at_call 208
  refine (hn2.out g6 V8 I8 hHeld.big j8 e6).mono ?_
  rintro e WF ⟨rfl, IF, FF⟩
  refine hK.out _ _ (hHeld.next FF.bel hle) (fun hHeldF => ?_)
  clear hK K
  try simp only [Act.put, sA, s0, s1]
  clear hHeld
  have hHeld := hHeldF
  refine tQ 10 rfl hHeld ?_
  refine wpAnyH_done (by kernel_rfl) ?_ _
  have hend := hfin.out _ IF hHeld.2.2
  go_wp2_with fail
  go_ret
  exact hend
end Go.Proofs.YtlpgjdlkjahdgaaGreatDoor
