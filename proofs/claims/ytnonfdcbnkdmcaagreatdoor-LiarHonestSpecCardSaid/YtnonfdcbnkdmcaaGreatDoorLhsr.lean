/- LiarHonestSpec: for every liar, two devices and folder the law returns true and its arguments read as before; the package variables digest.start and digest.numbers are as the program's text lays them (the tied card); no other condition. -/
import Derived.Test.YtnonfdcbnkdmcaaGreatDoorLiC
import Derived.Test.YtnonfdcbnkdmcaaGreatDoorLfC
import Derived.Test.YtnonfdcbnkdmcaaGreatDoorCards
import Derived.Test.YtnonfdcbnkdmcaaGreatDoorTie
import Derived.SevenTiedAt
import Derived.Deep.DeepHandedRow
import Derived.Deep.DeepWitnessRowRef
namespace Go.Proofs.YtnonfdcbnkdmcaaGreatDoor
open Go.RowKit Go.Mem Go.Shelf
open Go.Sto (Ent St Rul forkE BdL)
open Go.Vw (Hd Sg eqH)

set_option maxRecDepth 100000 in
set_option maxHeartbeats 20000000 in
theorem lhs_walk (s : St) (a : Option Addr) (n c : Nat) (ra : Option Addr) (rn rc : Nat) (rs : List Rul) (dv : Int) (_i1 : I64 dv) (dw : Int) (_i2 : I64 dw) (f : Int) (_i3 : I64 f) (w : World) (HT : Tabs w) (S0 : SVr w a n c s) (R0 : RuS w ra rn rc rs) :
    Calls Tryz.prog 4 #[.agg (liC s a n c ra rn rc).toArray, .int .i64 dv, .int .i64 dw, .int .i64 f] w (RetBo true w) := by
  have hrl := R0.len
  have hrm : rn ≤ 9223372036854775807 := Nat.le_trans (RS.le R0) (RS.max R0)
  have HT' := Lib.hid HT; have S0' := Lib.hid S0; have R0' := Lib.hid R0
  clear HT S0 R0
  obtain ⟨sb, hsb⟩ : ∃ sb, Hid (w.heap.size = sb) := ⟨_, rfl⟩
  obtain ⟨W1, hW1⟩ : ∃ W1, Hid (w.alloc (.cells #[.int .i64 s.id, .int .i64 s.priv, .slice a n c, .slice ra rn rc] 27) = W1) := ⟨_, rfl⟩
  have hB1 : Hid (Blk W1 sb 27 (liC s a n c ra rn rc)) := by rw [← hW1.out, ← hsb.out]; exact Blk.new w _ (liC s a n c ra rn rc)
  have hbw : Hid (Below w.heap.size w W1) := by rw [← hW1.out]; exact (Below.refl _ w).alloc (Nat.le_refl _) _
  obtain ⟨X, hX⟩ : ∃ X, Hid (X = RetBo true w) := ⟨_, rfl⟩
  have hfin : Hid (∀ W, Below w.heap.size w W → X (.returned (.bool true)) W) := fun W hb => by rw [hX.out]; exact ⟨rfl, hb⟩
  rw [← hX.out]
  clear hX
  obtain ⟨fq, hfq⟩ : ∃ q, Hid (fewL s rn = q) := ⟨_, rfl⟩
  have hfw := Lib.hid (fun W (hW : Below w.heap.size w W) => few31_any a n c s ra rn rc W (S0'.out.below hW) hrm)
  rw [hfq.out] at hfw
  unfold liC at *
  go_enter Tryz.func4, Tryz.ntmps4
  go_upto_region 1 with fail
  rw [hsb.out]
  generalize hWq : w.alloc _ = Wq
  obtain rfl : W1 = Wq := by rw [← hWq]; exact hW1.out.symm
  clear hWq hW1
  go_wp2_with fail
  refine (sane31_any _ (HT'.out.below hbw.out)).mono ?_
  rintro e w2 ⟨rfl, hst⟩
  replace hB1 := Lib.hid (hB1.out.below hst hB1.out.lt)
  replace hbw := Lib.hid (hbw.out.trans (hst.mono hbw.out.size))
  clear hst
  have l0 := hB1.out.at_ (i := 0) rfl
  have l1 := hB1.out.at_ (i := 1) rfl
  have l2 := hB1.out.at_ (i := 2) rfl
  have l3 := hB1.out.at_ (i := 3) rfl
  go_wp2_with fail
  refine (hfw.out _ hbw.out).mono ?_
  rintro e w3 ⟨rfl, hst⟩
  replace hB1 := Lib.hid (hB1.out.below hst hB1.out.lt)
  replace hbw := Lib.hid (hbw.out.trans (hst.mono hbw.out.size))
  clear hst l0 l1 l2 l3 hfw
  cases fq with
  | false =>
    have hf := Lib.hid (hfin.out _ hbw.out)
    clear hB1 hbw hfq
    go_wp2_with fail
    exact hf.out
  | true =>
    have hfew : few30s s = true ∧ rn ≤ 70 := by
      have := hfq.out
      unfold fewL at this
      simpa using this
    have hsv : Hid (∀ W, Below w.heap.size w W → SV (fun _ => True) W a n c s) := fun W h => (S0'.out.below h).sv hfew.1
    have hrs : Hid (∀ W, Below w.heap.size w W → RuS W ra rn rc rs) := fun W h => R0'.out.below h
    have hbd : Hid (∀ f, BdL 0 (Sto.ents s f)) := fun f => few_bd hfew.1 f
    have hrn : rn ≤ 70 := hfew.2
    clear hfq hfew S0' R0'
    have h1 : Hid (∀ W, Below w.heap.size w W → Calls Tryz.prog 15 #[.agg #[.int .i64 s.id, .int .i64 s.priv, .slice a n c, .slice ra rn rc], .int .i64 dv, .int .i64 f] W (BIPost (Sto.honestL s rs dv f) W)) := fun W hW => lhonest_any a n c s ra rn rc rs dv f W (HT'.out.below hW) (hsv.out W hW) (hrs.out W hW) (hbd.out f)
    have h2 : Hid (∀ W, Below w.heap.size w W → Calls Tryz.prog 16 #[.agg #[.int .i64 s.id, .int .i64 s.priv, .slice a n c, .slice ra rn rc], .int .i64 dv, .int .i64 f] W (BIPost (Sto.honestL s rs dv f) W)) := fun W hW => r31honest_any a n c s ra rn rc rs dv f W (hsv.out W hW) (hrs.out W hW) (hbd.out f)
    have h3 : Hid (∀ W, Below w.heap.size w W → Calls Tryz.prog 17 #[.agg #[.int .i64 s.id, .int .i64 s.priv, .slice a n c, .slice ra rn rc], .int .i64 dv, .int .i64 dw, .int .i64 f] W (BIPost (Sto.apartL s rs dv dw f) W)) := fun W hW => lapart_any a n c s ra rn rc rs dv dw f W (HT'.out.below hW) (hsv.out W hW) (hrs.out W hW) (hbd.out f)
    have h4 : Hid (∀ W, Below w.heap.size w W → Calls Tryz.prog 18 #[.agg #[.int .i64 s.id, .int .i64 s.priv, .slice a n c, .slice ra rn rc], .int .i64 dv, .int .i64 dw, .int .i64 f] W (BIPost (Sto.apartL s rs dv dw f) W)) := fun W hW => r31apart_any a n c s ra rn rc rs dv dw f W (hsv.out W hW) (hrs.out W hW) (hbd.out f)
    unfold BIPost at h1 h2 h3 h4
    obtain ⟨P, hP⟩ : ∃ x, Hid (Sto.honestL s rs dv f = x) := ⟨_, rfl⟩
    obtain ⟨Q, hQ⟩ : ∃ x, Hid (Sto.apartL s rs dv dw f = x) := ⟨_, rfl⟩
    rw [hP.out] at h1 h2
    rw [hQ.out] at h3 h4
    clear hP hQ hsv hrs hbd
    obtain ⟨p1, p2⟩ := P
    obtain ⟨q1, q2⟩ := Q
    have l0 := hB1.out.at_ (i := 0) rfl
    have l1 := hB1.out.at_ (i := 1) rfl
    have l2 := hB1.out.at_ (i := 2) rfl
    have l3 := hB1.out.at_ (i := 3) rfl
    go_wp2_with fail
    refine (h1.out _ hbw.out).mono ?_
    rintro e w4 ⟨rfl, hst⟩
    try simp only []
    replace hB1 := Lib.hid (hB1.out.below hst hB1.out.lt)
    replace hbw := Lib.hid (hbw.out.trans (hst.mono hbw.out.size))
    clear hst l0 l1 l2 l3 h1
    have l0 := hB1.out.at_ (i := 0) rfl
    have l1 := hB1.out.at_ (i := 1) rfl
    have l2 := hB1.out.at_ (i := 2) rfl
    have l3 := hB1.out.at_ (i := 3) rfl
    go_wp2_with fail
    refine (h2.out _ hbw.out).mono ?_
    rintro e w5 ⟨rfl, hst⟩
    try simp only []
    replace hB1 := Lib.hid (hB1.out.below hst hB1.out.lt)
    replace hbw := Lib.hid (hbw.out.trans (hst.mono hbw.out.size))
    clear hst l0 l1 l2 l3 h2
    have l0 := hB1.out.at_ (i := 0) rfl
    have l1 := hB1.out.at_ (i := 1) rfl
    have l2 := hB1.out.at_ (i := 2) rfl
    have l3 := hB1.out.at_ (i := 3) rfl
    go_wp2_with fail
    refine (h3.out _ hbw.out).mono ?_
    rintro e w6 ⟨rfl, hst⟩
    try simp only []
    replace hB1 := Lib.hid (hB1.out.below hst hB1.out.lt)
    replace hbw := Lib.hid (hbw.out.trans (hst.mono hbw.out.size))
    clear hst l0 l1 l2 l3 h3
    have l0 := hB1.out.at_ (i := 0) rfl
    have l1 := hB1.out.at_ (i := 1) rfl
    have l2 := hB1.out.at_ (i := 2) rfl
    have l3 := hB1.out.at_ (i := 3) rfl
    go_wp2_with fail
    refine (h4.out _ hbw.out).mono ?_
    rintro e w7 ⟨rfl, hst⟩
    try simp only []
    replace hB1 := Lib.hid (hB1.out.below hst hB1.out.lt)
    replace hbw := Lib.hid (hbw.out.trans (hst.mono hbw.out.size))
    clear hst l0 l1 l2 l3 h4
    have hend := Lib.hid (hfin.out _ hbw.out)
    clear hB1 hfin
    go_wp2_with fail
    exact hend.out
end Go.Proofs.YtnonfdcbnkdmcaaGreatDoor
namespace Go.Proofs.YtnonfdcbnkdmcaaGreatDoor.lawLHonestSpec
open Go.ChangeShapes Go.WideShapes Go.ChangeAt Go.RowKit Go.Mem
open Go.Proofs.YtnonfdcbnkdmcaaGreatDoor

set_option maxRecDepth 100000 in
theorem lifted (os : Os) (started : os.Started) (H : Type) (enc : TypeId × Value → H) :
    ReturnsInHanded {} Tryz.checked os 4 .any (fun w args => (Rows.liarHonestSpecSpec.pre enc Tryz.prog Tryz.f4 [] false w args ∧ laidMetH Tryz.prog laid2 w) ∧ sizedMet enc Tryz.prog Tryz.f4 (OpenSpec.ofChange Rows.liarHonestSpecSpec) false w args)
      (Rows.liarHonestSpecSpec.post enc Tryz.prog Tryz.f4 false true false false) := by
  refine returnsInHanded_of_change_and (C := Tryz.checked) (X := fun w _ => laidMetH Tryz.prog laid2 w) (fun _ _ _ hh h => h.of_heap hh) own started (by kernel_rfl) Tryz.func4
    (ChangeSpec.witness_shaped (enc := enc) (C := Tryz.checked) (os := os) (X := fun w _ => laidMetH Tryz.prog laid2 w) false (World.doorLaid Tryz.prog 400 os) #[.agg (liC ⟨0, 0, []⟩ none 0 0 none 0 0).toArray, .int .i64 0, .int .i64 0, .int .i64 0] 8 rfl (World.shaped_of_RefB (by kernel_rfl) (by kernel_rfl)) (by kernel_rfl) (by kernel_rfl) (by kernel_rfl) (door_met os _)) ?_
  intro W base args ds gs before hval0 hW _ hwt hL _
  have hval : ∀ (j : Nat) t v, Tryz.f4.params[j]? = some t → args[j]? = some v → Value.okWide Tryz.prog W .any base t v := hval0
  have hW' := hW
  obtain ⟨p, q, hA0, hV, rfl, hfz, hnd⟩ := hW
  have hA : DataW.TrodAll enc Tryz.prog W 0 (fun _ => true) true Tryz.f4.params.toList args.toList ds p := hA0
  rw [Tryz.params4] at hA hval
  obtain ⟨v0, vs0, d0, ds0, p0, q0, hargs, rfl, rfl, h0, r0⟩ := trodAll_cons hA
  obtain ⟨v1, vs1, d1, ds1, p1, q1, rfl, rfl, rfl, h1, r1⟩ := trodAll_cons r0
  obtain ⟨v2, vs2, d2, ds2, p2, q2, rfl, rfl, rfl, h2, r2⟩ := trodAll_cons r1
  obtain ⟨v3, vs3, d3, ds3, p3, q3, rfl, rfl, rfl, h3, r3⟩ := trodAll_cons r2
  obtain ⟨rfl, rfl, rfl⟩ := trodAll_nil r3
  obtain rfl : args = #[v0, v1, v2, v3] := by cases args; simp_all
  obtain ⟨rfl, rfl⟩ := trodVars_none hV
  have lt0 : ∀ x ∈ p0, x.block < W.heap.size := by obtain ⟨m, hm⟩ := h0; exact DataW.trod_lt m _ _ _ hm
  have lt1 : ∀ x ∈ p1, x.block < W.heap.size := by obtain ⟨m, hm⟩ := h1; exact DataW.trod_lt m _ _ _ hm
  have lt2 : ∀ x ∈ p2, x.block < W.heap.size := by obtain ⟨m, hm⟩ := h2; exact DataW.trod_lt m _ _ _ hm
  have lt3 : ∀ x ∈ p3, x.block < W.heap.size := by obtain ⟨m, hm⟩ := h3; exact DataW.trod_lt m _ _ _ hm
  have k0' := h0
  have k1' := h1
  have k2' := h2
  have k3' := h3
  obtain ⟨cs0, rfl, _⟩ := okWide_struct Tryz.underlying27 (hval 0 27 v0 rfl rfl)
  obtain ⟨m0, hm0⟩ := h0
  obtain ⟨s0, a0, n0, c0, ra0, rn0, rc0, rs0, e0, S0, R0⟩ := open_liar (cs := cs0.toList) (by simpa [Value.cells] using hm0)
  obtain rfl : cs0 = (liC s0 a0 n0 c0 ra0 rn0 rc0).toArray := by rw [← e0]
  clear hm0 e0
  obtain ⟨x1, rfl⟩ := okWide_int Tryz.underlying3 (hval 1 3 v1 rfl rfl)
  obtain ⟨m1, hm1⟩ := h1
  obtain ⟨x1', e1, i1⟩ := open_int1 (cs := [.int .i64 x1]) (by simpa [Value.cells] using hm1)
  obtain rfl : x1 = x1' := by simpa using e1
  clear hm1 e1
  obtain ⟨x2, rfl⟩ := okWide_int Tryz.underlying3 (hval 2 3 v2 rfl rfl)
  obtain ⟨m2, hm2⟩ := h2
  obtain ⟨x2', e2, i2⟩ := open_int1 (cs := [.int .i64 x2]) (by simpa [Value.cells] using hm2)
  obtain rfl : x2 = x2' := by simpa using e2
  clear hm2 e2
  obtain ⟨x3, rfl⟩ := okWide_int Tryz.underlying3 (hval 3 3 v3 rfl rfl)
  obtain ⟨m3, hm3⟩ := h3
  obtain ⟨x3', e3, i3⟩ := open_int1 (cs := [.int .i64 x3]) (by simpa [Value.cells] using hm3)
  obtain rfl : x3 = x3' := by simpa using e3
  clear hm3 e3
  have hT := tabs_of_laid hL
  clear hA0 hval0
  refine (lhs_walk s0 a0 n0 c0 ra0 rn0 rc0 rs0 x1 i1 x2 i2 x3 i3 W hT S0 R0).mono fun e W' ⟨he, bel⟩ => ?_
  subst he
  exact ⟨_, rfl, _, _, _, [], _, [], hW', trodAll_mk1 (shut_bool Tryz.underlying4 _),
    (trodAll_cons_mk (Below.trod laidOut (by kernel_rfl) (of_decide_eq_true (by kernel_rfl)) k0' bel lt0) (trodAll_cons_mk (Below.trod laidOut (by kernel_rfl) (of_decide_eq_true (by kernel_rfl)) k1' bel lt1) (trodAll_cons_mk (Below.trod laidOut (by kernel_rfl) (of_decide_eq_true (by kernel_rfl)) k2' bel lt2) (trodAll_cons_mk (Below.trod laidOut (by kernel_rfl) (of_decide_eq_true (by kernel_rfl)) k3' bel lt3) trodAll_mk0)))), rfl, bel.frame _, fun h => by cases h⟩

theorem over : Rows.LiarHonestSpecSaid :=
  OpenClaim.holds_of_wide 4 Tryz.f4 rfl rfl rfl rfl rfl rfl rfl ⟨rfl, rfl, rfl, rfl, rfl⟩ rfl rfl rfl rfl rfl (by kernel_rfl) Tryz.func4 (by kernel_rfl)
    (of_decide_eq_true (by kernel_rfl)) (by unfold Func.isWrapper; first | (rw [if_pos (by decide +kernel)]; kernel_rfl) | (rw [if_neg (by decide +kernel)]; exact ⟨rfl, rfl⟩))
    (fun os started H enc _ => lifted os started H enc)

theorem proved : Rows.LiarHonestSpecCardSaid :=
  Claim7.holds_tied_plain_at .later [] [.data, .data] true (true, "f1795c23477191a86de028924151d0d8d5cdfe28fb540b6f067f4dbe71f008fb") false
    over (fun _ h => by cases h) (by kernel_rfl) (fun _ h => by cases h) liarHonestSpec_row_tie rfl ⟨rfl, rfl⟩ (by kernel_rfl) rfl
    (fun f fn hf hfn => by
      obtain rfl : f = 4 := Option.some.inj ((show Tryz.prog.funcNamed "chartroom/chartroomlaw31.LiarHonestSpec" = some 4 by kernel_rfl).symm.trans hf) |>.symm
      obtain rfl : fn = Tryz.f4 := (Option.some.inj (Tryz.func4.symm.trans hfn)).symm
      exact ⟨by kernel_rfl, fun j t ht => by
        rw [Tryz.params4] at ht
        have hm : t ∈ [27, 3, 3, 3] := by simpa using Array.mem_of_getElem? ht
        have hall : ([27, 3, 3, 3].all fun u => !Tryz.prog.wantsStandIn u) = true := by kernel_rfl
        exact (show Tryz.prog.wantsStandIn t = false by simpa using List.all_eq_true.1 hall t hm)⟩)
    (by kernel_rfl)
#print axioms proved
end Go.Proofs.YtnonfdcbnkdmcaaGreatDoor.lawLHonestSpec
