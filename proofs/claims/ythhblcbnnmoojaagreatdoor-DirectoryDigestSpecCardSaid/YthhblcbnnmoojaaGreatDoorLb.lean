/- the law DirectoryDigestSpec walked -/
import Derived.Test.YthhblcbnnmoojaaGreatDoorRe
import Derived.Test.YthhblcbnnmoojaaGreatDoorFc
import Derived.Test.YthhblcbnnmoojaaGreatDoorCards
import Derived.Test.YthhblcbnnmoojaaGreatDoorTie
import Derived.SevenTiedAt
import Derived.Deep.DeepHandedRow
import Derived.Deep.DeepWitnessRowRef
namespace Go.Proofs.YthhblcbnnmoojaaGreatDoor
open Go.RowKit Go.Mem
open Go.Dr (Lst Rt Dir exL)

set_option maxRecDepth 100000 in
set_option maxHeartbeats 8000000 in
theorem digestspec_walk (a : Option Addr) (n c : Nat) (l : List Lst) (w : World) (HT : Tabs w) (H : GS (fun _ => True) w a n c l) :
    Calls Tryz.prog 5 #[.slice a n c] w (RetBo true w) := by
  have HT' := Lib.hid HT; have H' := Lib.hid H
  have hlen := RS.len H
  have n63 : (n : Int) ≤ 9223372036854775807 := by have := RS.le H; have := RS.max H; omega
  obtain ⟨X, hX⟩ : ∃ X, X = RetBo true w := ⟨_, rfl⟩
  have hfin : Hid (∀ W, Below w.heap.size w W → X (.returned (.bool true)) W) := fun W hb => by rw [hX]; exact ⟨rfl, hb⟩
  rw [← hX]
  clear hX HT H
  obtain ⟨V, hV⟩ : ∃ V : Int, Hid ((if Go.Dr.chkL l then 0 else 350) = V) := ⟨_, rfl⟩
  obtain ⟨D, hD⟩ : ∃ D, Hid (bv (Go.Dr.rootD l) = D) := ⟨_, rfl⟩
  have heq : ∀ W, (Op.equalIn 10000 23 (.agg D.toArray) (.agg D.toArray)).run Tryz.prog W = .ok true W := fun W => by rw [← hD.out, eq_dig (rootD_dig l) (rootD_dig l) W, decide_eq_true rfl]
  have hc1 := Lib.hid (fun W h => dcheck_any (fun _ => True) a n c l W h)
  have hc2 := Lib.hid (fun W h => r35check_any (fun _ => True) a n c l W h)
  have hd2 := Lib.hid (fun W h => r35digest_any (fun _ => True) a n c l W h)
  unfold DigPost at hd2
  rw [hV.out] at hc1 hc2
  rw [hD.out] at hd2
  go_enter Tryz.func5, Tryz.ntmps5
  go_wp2_with fail
  refine (sane35_any w HT'.out).mono ?_
  rintro e w1 ⟨rfl, hb1'⟩
  have hb1 := Lib.hid hb1'
  clear hb1'
  by_cases hn : n ≤ 20
  · have hn' : decide ((20 : Int) < (n : Int)) = false := by simp; omega
    have hd1 := Lib.hid (fun W (hT : Tabs W) (h : GS (fun _ => True) W a n c l) => digestL_any (fun _ => True) a n c l W hT h)
    unfold DigPost at hd1
    rw [hD.out] at hd1
    clear hn
    go_wp2_with fail
    refine (hc1.out w1 (H'.out.below hb1.out)).mono ?_
    rintro e w2 ⟨rfl, hb2'⟩
    have hb2 := Lib.hid (hb1.out.trans (hb2'.mono hb1.out.size))
    clear hb2' hb1
    go_wp2_with fail
    refine (hc2.out w2 (H'.out.below hb2.out)).mono ?_
    rintro e w3 ⟨rfl, hb3'⟩
    have hb3 := Lib.hid (hb2.out.trans (hb3'.mono hb2.out.size))
    clear hb3' hb2
    go_wp2_with fail
    refine (hd1.out w3 (HT'.out.below hb3.out) (H'.out.below hb3.out)).mono ?_
    rintro e w4 ⟨rfl, hb4'⟩
    have hb4 := Lib.hid (hb3.out.trans (hb4'.mono hb3.out.size))
    clear hb4' hb3
    go_wp2_with fail
    refine (hd2.out w4 (H'.out.below hb4.out)).mono ?_
    rintro e w5 ⟨rfl, hb5'⟩
    have hend := Lib.hid (hfin.out w5 (hb4.out.trans (hb5'.mono hb4.out.size)))
    clear hb5' hb4
    go_wp2_with fail
    exact hend.out
  · have hn' : decide ((20 : Int) < (n : Int)) = true := by simp; omega
    have hend := Lib.hid (hfin.out w1 hb1.out)
    go_wp2_with fail
    exact hend.out
end Go.Proofs.YthhblcbnnmoojaaGreatDoor
namespace Go.Proofs.YthhblcbnnmoojaaGreatDoor.lawDigestSpec
open Go.ChangeShapes Go.WideShapes Go.ChangeAt Go.RowKit Go.Mem
open Go.Proofs.YthhblcbnnmoojaaGreatDoor

set_option maxRecDepth 100000 in
theorem lifted (os : Os) (started : os.Started) (H : Type) (enc : TypeId × Value → H) :
    ReturnsInHanded {} Tryz.checked os 5 .any (fun w args => (Rows.directoryDigestSpecSpec.pre enc Tryz.prog Tryz.f5 [] false w args ∧ laidMetH Tryz.prog laid2 w) ∧ sizedMet enc Tryz.prog Tryz.f5 (OpenSpec.ofChange Rows.directoryDigestSpecSpec) false w args)
      (Rows.directoryDigestSpecSpec.post enc Tryz.prog Tryz.f5 false true false false) := by
  refine returnsInHanded_of_change_and (C := Tryz.checked) (X := fun w _ => laidMetH Tryz.prog laid2 w) (fun _ _ _ hh h => h.of_heap hh) own started (by kernel_rfl) Tryz.func5
    (ChangeSpec.witness_shaped (enc := enc) (C := Tryz.checked) (os := os) (X := fun w _ => laidMetH Tryz.prog laid2 w) false (World.doorLaid Tryz.prog 400 os) #[.slice none 0 0] 8 rfl (World.shaped_of_RefB (by kernel_rfl) (by kernel_rfl)) (by kernel_rfl) (by kernel_rfl) (by kernel_rfl) (door_met os _)) ?_
  intro W base args ds gs before hval0 hW _ hwt hL _
  have hval : ∀ (j : Nat) t v, Tryz.f5.params[j]? = some t → args[j]? = some v → Value.okWide Tryz.prog W .any base t v := hval0
  have hW' := hW
  obtain ⟨p, q, hA0, hV, rfl, hfz, hnd⟩ := hW
  have hA : DataW.TrodAll enc Tryz.prog W 0 (fun _ => true) true Tryz.f5.params.toList args.toList ds p := hA0
  rw [Tryz.params5] at hA hval
  obtain ⟨v0, vs0, d0, ds0, p0, q0, hargs, rfl, rfl, h0, r0⟩ := trodAll_cons hA
  obtain ⟨rfl, rfl, rfl⟩ := trodAll_nil r0
  obtain rfl : args = #[v0] := by cases args; simp_all
  obtain ⟨rfl, rfl⟩ := trodVars_none hV
  have lt0 : ∀ x ∈ p0, x.block < W.heap.size := by obtain ⟨m, hm⟩ := h0; exact DataW.trod_lt m _ _ _ hm
  have k0' := h0
  obtain ⟨a0, n0, c0, rfl⟩ := okWide_slice Tryz.underlying31 (hval 0 31 v0 rfl rfl)
  obtain ⟨m0, hm0⟩ := h0
  obtain ⟨_, _, _, l0, e0, S0⟩ := open_lss (cs := [.slice a0 n0 c0]) (by simpa [Value.cells] using hm0)
  simp only [List.cons.injEq, Value.slice.injEq, and_true] at e0
  obtain ⟨rfl, rfl, rfl⟩ := e0
  clear hm0
  have hT := tabs_of_laid hL
  clear hA0 hval0
  refine (digestspec_walk a0 n0 c0 l0 W hT S0).mono fun e W' ⟨he, bel⟩ => ?_
  subst he
  exact ⟨_, rfl, _, _, _, [], _, [], hW', trodAll_mk1 (shut_bool Tryz.underlying4 _),
    (trodAll_cons_mk (Below.trod laidOut (by kernel_rfl) (of_decide_eq_true (by kernel_rfl)) k0' bel lt0) trodAll_mk0), rfl, bel.frame _, fun h => by cases h⟩

theorem over : Rows.DirectoryDigestSpecSaid :=
  OpenClaim.holds_of_wide 5 Tryz.f5 rfl rfl rfl rfl rfl rfl rfl ⟨rfl, rfl, rfl, rfl, rfl⟩ rfl rfl rfl rfl rfl (by kernel_rfl) Tryz.func5 (by kernel_rfl)
    (of_decide_eq_true (by kernel_rfl)) (by unfold Func.isWrapper; first | (rw [if_pos (by decide +kernel)]; kernel_rfl) | (rw [if_neg (by decide +kernel)]; exact ⟨rfl, rfl⟩))
    (fun os started H enc _ => lifted os started H enc)

theorem proved : Rows.DirectoryDigestSpecCardSaid :=
  Claim7.holds_tied_plain_at .later [] [.data, .data, .sentinel] true (true, "1d3431046d51e23ed24249f1205848a0c04a50149c11ca40710e0fbacd3e68da") false
    over (fun _ h => by cases h) (by kernel_rfl) (fun _ h => by cases h) directoryDigestSpec_row_tie rfl ⟨rfl, rfl⟩ (by kernel_rfl) rfl
    (fun f fn hf hfn => by
      obtain rfl : f = 5 := Option.some.inj ((show Tryz.prog.funcNamed "chartroom/chartroomlaw35.DirectoryDigestSpec" = some 5 by kernel_rfl).symm.trans hf) |>.symm
      obtain rfl : fn = Tryz.f5 := (Option.some.inj (Tryz.func5.symm.trans hfn)).symm
      exact ⟨by kernel_rfl, fun j t ht => by
        rw [Tryz.params5] at ht
        have hm : t ∈ [31] := by simpa using Array.mem_of_getElem? ht
        have hall : ([31].all fun u => !Tryz.prog.wantsStandIn u) = true := by kernel_rfl
        exact (show Tryz.prog.wantsStandIn t = false by simpa using List.all_eq_true.1 hall t hm)⟩)
    (by kernel_rfl)
#print axioms proved
end Go.Proofs.YthhblcbnnmoojaaGreatDoor.lawDigestSpec
