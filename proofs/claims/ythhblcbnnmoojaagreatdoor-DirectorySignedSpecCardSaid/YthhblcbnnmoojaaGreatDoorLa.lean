/- the law DirectorySignedSpec walked -/
import Derived.Test.YthhblcbnnmoojaaGreatDoorRe
import Derived.Test.YthhblcbnnmoojaaGreatDoorFb
import Derived.Test.YthhblcbnnmoojaaGreatDoorCards
import Derived.Test.YthhblcbnnmoojaaGreatDoorTie
import Derived.SevenTiedAt
import Derived.Deep.DeepHandedRow
import Derived.Deep.DeepWitnessRowRef
namespace Go.Proofs.YthhblcbnnmoojaaGreatDoor
open Go.RowKit Go.Mem
open Go.Dr (Lst Rt Dir exL)

def SpW (w : World) (tb : Nat) (r : List Value) (wz : World) : Prop := Blk wz tb 27 r ∧ tb < wz.heap.size ∧ Below w.heap.size w wz
theorem SpW.drew {w wz : World} {tb : Nat} {r : List Value} (h : SpW w tb r wz) : SpW w tb r wz.drew := ⟨h.1, h.2.1, h.2.2.drew⟩
theorem SpW.next {w wz wq : World} {tb : Nat} {r : List Value} (hb : Below wz.heap.size wz wq) (h : SpW w tb r wz) : SpW w tb r wq := ⟨h.1.below hb h.2.1, Nat.lt_of_lt_of_le h.2.1 hb.size, h.2.2.trans (hb.mono h.2.2.size)⟩
set_option maxRecDepth 100000 in
set_option maxHeartbeats 8000000 in
theorem signedspec_walk (pub : Int) (hp : I64 pub) (x : Rt) (hx : OkQ x) (w : World) (HT : Tabs w) :
    Calls Tryz.prog 3 #[.int .i64 pub, .agg (rC x).toArray] w (RetBo true w) := by
  have HT' := Lib.hid HT; have hx' := Lib.hid hx; have hp' := Lib.hid hp
  obtain ⟨ra, hra⟩ : ∃ ra, Hid (rC x = ra) := ⟨_, rfl⟩
  have z0 : (Tryz.prog.info? 27).map (·.size) = some ra.length := by rw [← hra.out, rC_length hx]; exact sizeR
  obtain ⟨X, hX⟩ : ∃ X, X = RetBo true w := ⟨_, rfl⟩
  have hfin : Hid (∀ W, Below w.heap.size w W → X (.returned (.bool true)) W) := fun W hb => by rw [hX]; exact ⟨rfl, hb⟩
  rw [← hX]
  clear hX HT hx hp
  obtain ⟨tb, htb⟩ : ∃ tb, Hid (w.heap.size = tb) := ⟨_, rfl⟩
  have hid := Lib.hid (fun W (h : Tabs W) => id_any x hx'.out W h)
  have hid2 := Lib.hid (fun W => r35id_any x hx'.out W)
  have hsg := Lib.hid (fun W (h : Tabs W) => signed_any pub hp'.out x hx'.out W h)
  have hsg2 := Lib.hid (fun W => r35signed_any pub x hx'.out W)
  obtain ⟨V, hV⟩ : ∃ V, Hid (Go.Dr.signedB 4 pub x = V) := ⟨_, rfl⟩
  rw [hV.out] at hsg hsg2
  clear hV
  obtain ⟨D, hD⟩ : ∃ D, Hid (bv (Go.Dr.idR x) = D) := ⟨_, rfl⟩
  have hdg : Dig (Go.Dr.idR x) := ⟨Sha.tagged_length _ _, Sha.tagged_lt _ _⟩
  have heq : ∀ W, (Op.equalIn 10000 23 (.agg D.toArray) (.agg D.toArray)).run Tryz.prog W = .ok true W := fun W => by rw [← hD.out, eq_dig hdg hdg W, decide_eq_true rfl]
  unfold DigPost at hid hid2
  rw [hD.out] at hid hid2
  clear hdg hD
  rw [hra.out] at hid hid2 hsg hsg2 ⊢
  go_enter Tryz.func3, Tryz.ntmps3
  go_upto_region 1 with fail
  rw [htb.out]
  generalize hW : World.alloc _ _ = W
  have hM : Hid (SpW w tb ra W) := by rw [← hW, ← htb.out]; exact ⟨Blk.new w _ ra, by simp, (Below.refl _ w).alloc (Nat.le_refl _) _⟩
  clear hW
  go_wp2_with fail
  refine (sane35_any W (HT'.out.below hM.out.2.2)).mono ?_
  rintro e w1 ⟨rfl, hb1⟩
  have hM1 := Lib.hid (hM.out.next hb1)
  clear hM hb1
  go_wp2_with fail
  refine wp_region_held_drew (S := fun wz => SpW w tb ra wz) (by kernel_rfl) (hM1.out.drew) (fun hHeld => ?_)
  generalize w1.drew = W0 at *
  refine wpAnyH_take (i := 0) (oi := { dst := some 7, op := Op.load 27 (Operand.tmp 3), type := 27, pos := "law.go:89", after := #[], guard := none }) rfl (by kernel_rfl) (by kernel_rfl) (by kernel_rfl) (fun _ _ _ h => h) (yieldsIf_load_mid (by rfl) _ _ rfl tb 0 rfl (ra) _ (fun wz h => h.1.range) Tryz.underlying27 rfl (z0)) hHeld ?_
  try simp only [Act.put, List.setIfInBounds_toArray, List.set_cons_zero, List.set_cons_succ]
  refine wpAnyH_take (i := 2) (oi := { dst := some 9, op := Op.load 27 (Operand.tmp 3), type := 27, pos := "law.go:89", after := #[], guard := none }) rfl (by kernel_rfl) (by kernel_rfl) (by kernel_rfl) (fun _ _ _ h => h) (yieldsIf_load_mid (by rfl) _ _ rfl tb 0 rfl (ra) _ (fun wz h => h.1.range) Tryz.underlying27 rfl (z0)) hHeld ?_
  try simp only [Act.put, List.setIfInBounds_toArray, List.set_cons_zero, List.set_cons_succ]
  refine wpAnyH_ready (rs := [1]) (by kernel_rfl) (by simp) ?_
  refine AllReadyH.cons (o := { dst := some 8, op := Op.call { callee := Callee.value (Operand.func 10), args := #[Operand.tmp 7], argTypes := #[27] }, type := 23, pos := "law.go:89", after := #[{ on := 0, ground := Ground.data }], guard := none }) rfl (fun K hK => ?_) AllReadyH.nil
  rw [if_pos (by rfl)]
  show Oper.wp _ _ _ _ K _
  go_simp
  go_at_call 10
  refine (hid.out W0 (HT'.out.below hHeld.2.2)).mono ?_
  rintro e W1 ⟨rfl, hb1⟩
  refine hK.out _ _ (hHeld.next hb1) (fun hHeld2 => ?_)
  clear hb1
  clear hHeld
  have hHeld := hHeld2
  clear hHeld2
  clear hK K
  try simp only [Act.put, List.setIfInBounds_toArray, List.set_cons_zero, List.set_cons_succ]
  refine wpAnyH_ready (rs := [3]) (by kernel_rfl) (by simp) ?_
  refine AllReadyH.cons (o := { dst := some 10, op := Op.call { callee := Callee.value (Operand.func 11), args := #[Operand.tmp 9], argTypes := #[27] }, type := 23, pos := "law.go:89", after := #[{ on := 2, ground := Ground.data }, { on := 1, ground := Ground.chain }], guard := none }) rfl (fun K hK => ?_) AllReadyH.nil
  rw [if_pos (by rfl)]
  show Oper.wp _ _ _ _ K _
  go_simp
  go_at_call 11
  refine (hid2.out W1).mono ?_
  rintro e W2 ⟨rfl, hb2⟩
  refine hK.out _ _ (hHeld.next hb2) (fun hHeld2 => ?_)
  clear hb2
  clear hHeld
  have hHeld := hHeld2
  clear hHeld2
  clear hK K
  try simp only [Act.put, List.setIfInBounds_toArray, List.set_cons_zero, List.set_cons_succ]
  refine wpAnyH_take (i := 4) (oi := { dst := some 11, op := Op.binOp BinOp.eql 23 (Operand.tmp 8) (Operand.tmp 10) 23, type := 4, pos := "law.go:89", after := #[{ on := 1, ground := Ground.data }, { on := 3, ground := Ground.data }], guard := none }) (v := ?_) rfl (by kernel_rfl) (by kernel_rfl) (by kernel_rfl) (fun _ _ _ h => h) (Or.inl ⟨by rfl, ?_⟩) hHeld ?_
  rotate_left
  · intro wz hSw
    have hq' := heq
    go_simp
    all_goals (with_reducible rfl)
  try simp only [Act.put, List.setIfInBounds_toArray, List.set_cons_zero, List.set_cons_succ]
  refine wpAnyH_take (i := 5) (oi := { dst := some 12, op := Op.move (Operand.tmp 11), type := 4, pos := "law.go:89", after := #[{ on := 4, ground := Ground.data }, { on := 3, ground := Ground.chain }], guard := none }) (v := ?_) rfl (by kernel_rfl) (by kernel_rfl) (by kernel_rfl) (fun _ _ _ h => h) (Or.inl ⟨by rfl, ?_⟩) hHeld ?_
  rotate_left
  · intro wz hSw
    go_simp
    all_goals (with_reducible rfl)
  try simp only [Act.put, List.setIfInBounds_toArray, List.set_cons_zero, List.set_cons_succ]
  refine wpAnyH_take (i := 6) (oi := { dst := some 13, op := Op.move (Operand.tmp 0), type := 3, pos := "law.go:89", after := #[{ on := 5, ground := Ground.guard }], guard := some (5, true) }) (v := ?_) rfl (by kernel_rfl) (by kernel_rfl) (by kernel_rfl) (fun _ _ _ h => h) (Or.inl ⟨by rfl, ?_⟩) hHeld ?_
  rotate_left
  · intro wz hSw
    go_simp
    all_goals (with_reducible rfl)
  try simp only [Act.put, List.setIfInBounds_toArray, List.set_cons_zero, List.set_cons_succ]
  refine wpAnyH_take (i := 7) (oi := { dst := some 14, op := Op.load 27 (Operand.tmp 3), type := 27, pos := "law.go:89", after := #[{ on := 5, ground := Ground.guard }], guard := some (5, true) }) rfl (by kernel_rfl) (by kernel_rfl) (by kernel_rfl) (fun _ _ _ h => h) (yieldsIf_load_mid (by rfl) _ _ rfl tb 0 rfl (ra) _ (fun wz h => h.1.range) Tryz.underlying27 rfl (z0)) hHeld ?_
  try simp only [Act.put, List.setIfInBounds_toArray, List.set_cons_zero, List.set_cons_succ]
  refine wpAnyH_take (i := 9) (oi := { dst := some 16, op := Op.move (Operand.tmp 0), type := 3, pos := "law.go:89", after := #[{ on := 5, ground := Ground.guard }], guard := some (5, true) }) (v := ?_) rfl (by kernel_rfl) (by kernel_rfl) (by kernel_rfl) (fun _ _ _ h => h) (Or.inl ⟨by rfl, ?_⟩) hHeld ?_
  rotate_left
  · intro wz hSw
    go_simp
    all_goals (with_reducible rfl)
  try simp only [Act.put, List.setIfInBounds_toArray, List.set_cons_zero, List.set_cons_succ]
  refine wpAnyH_take (i := 10) (oi := { dst := some 17, op := Op.load 27 (Operand.tmp 3), type := 27, pos := "law.go:89", after := #[{ on := 5, ground := Ground.guard }], guard := some (5, true) }) rfl (by kernel_rfl) (by kernel_rfl) (by kernel_rfl) (fun _ _ _ h => h) (yieldsIf_load_mid (by rfl) _ _ rfl tb 0 rfl (ra) _ (fun wz h => h.1.range) Tryz.underlying27 rfl (z0)) hHeld ?_
  try simp only [Act.put, List.setIfInBounds_toArray, List.set_cons_zero, List.set_cons_succ]
  refine wpAnyH_ready (rs := [8]) (by kernel_rfl) (by simp) ?_
  refine AllReadyH.cons (o := { dst := some 15, op := Op.call { callee := Callee.value (Operand.func 12), args := #[Operand.tmp 13, Operand.tmp 14], argTypes := #[3, 27] }, type := 4, pos := "law.go:89", after := #[{ on := 6, ground := Ground.data }, { on := 7, ground := Ground.data }, { on := 5, ground := Ground.chain }, { on := 5, ground := Ground.guard }], guard := some (5, true) }) rfl (fun K hK => ?_) AllReadyH.nil
  rw [if_pos (by rfl)]
  show Oper.wp _ _ _ _ K _
  go_simp
  go_at_call 12
  refine (hsg.out W2 (HT'.out.below hHeld.2.2)).mono ?_
  rintro e W3 ⟨rfl, hb3⟩
  refine hK.out _ _ (hHeld.next hb3) (fun hHeld2 => ?_)
  clear hb3
  clear hHeld
  have hHeld := hHeld2
  clear hHeld2
  clear hK K
  try simp only [Act.put, List.setIfInBounds_toArray, List.set_cons_zero, List.set_cons_succ]
  refine wpAnyH_ready (rs := [11]) (by kernel_rfl) (by simp) ?_
  refine AllReadyH.cons (o := { dst := some 18, op := Op.call { callee := Callee.value (Operand.func 13), args := #[Operand.tmp 16, Operand.tmp 17], argTypes := #[3, 27] }, type := 4, pos := "law.go:89", after := #[{ on := 9, ground := Ground.data }, { on := 10, ground := Ground.data }, { on := 8, ground := Ground.chain }, { on := 5, ground := Ground.guard }], guard := some (5, true) }) rfl (fun K hK => ?_) AllReadyH.nil
  rw [if_pos (by rfl)]
  show Oper.wp _ _ _ _ K _
  go_simp
  go_at_call 13
  refine (hsg2.out W3).mono ?_
  rintro e W4 ⟨rfl, hb4⟩
  refine hK.out _ _ (hHeld.next hb4) (fun hHeld2 => ?_)
  clear hb4
  clear hHeld
  have hHeld := hHeld2
  clear hHeld2
  clear hK K
  try simp only [Act.put, List.setIfInBounds_toArray, List.set_cons_zero, List.set_cons_succ]
  refine wpAnyH_take (i := 12) (oi := { dst := some 19, op := Op.binOp BinOp.eql 4 (Operand.tmp 15) (Operand.tmp 18) 4, type := 4, pos := "law.go:89", after := #[{ on := 8, ground := Ground.data }, { on := 11, ground := Ground.data }, { on := 5, ground := Ground.guard }], guard := some (5, true) }) (v := ?_) rfl (by kernel_rfl) (by kernel_rfl) (by kernel_rfl) (fun _ _ _ h => h) (Or.inl ⟨by rfl, ?_⟩) hHeld ?_
  rotate_left
  · intro wz hSw
    go_simp
    all_goals (with_reducible rfl)
  try simp only [Act.put, List.setIfInBounds_toArray, List.set_cons_zero, List.set_cons_succ]
  refine wpAnyH_take (i := 13) (oi := { dst := some 20, op := Op.pick (Operand.tmp 12) (Operand.tmp 19) (Operand.const (Value.bool false)), type := 4, pos := "law.go:89", after := #[{ on := 5, ground := Ground.data }, { on := 12, ground := Ground.data }], guard := none }) (v := ?_) rfl (by kernel_rfl) (by kernel_rfl) (by kernel_rfl) (fun _ _ _ h => h) (Or.inl ⟨by rfl, ?_⟩) hHeld ?_
  rotate_left
  · intro wz hSw
    go_simp
    all_goals (with_reducible rfl)
  try simp only [Act.put, List.setIfInBounds_toArray, List.set_cons_zero, List.set_cons_succ]
  refine wpAnyH_take (i := 14) (oi := { dst := some 4, op := Op.assign (Operand.tmp 20), type := 4, pos := "law.go:89", after := #[{ on := 13, ground := Ground.data }, { on := 11, ground := Ground.chain }, { on := 0, ground := Ground.phase }, { on := 1, ground := Ground.phase }, { on := 2, ground := Ground.phase }, { on := 3, ground := Ground.phase }, { on := 4, ground := Ground.phase }, { on := 5, ground := Ground.phase }, { on := 6, ground := Ground.phase }, { on := 7, ground := Ground.phase }, { on := 8, ground := Ground.phase }, { on := 9, ground := Ground.phase }, { on := 10, ground := Ground.phase }, { on := 11, ground := Ground.phase }, { on := 12, ground := Ground.phase }, { on := 13, ground := Ground.phase }], guard := none }) (v := ?_) rfl (by kernel_rfl) (by kernel_rfl) (by kernel_rfl) (fun _ _ _ h => h) (Or.inl ⟨by rfl, ?_⟩) hHeld ?_
  rotate_left
  · intro wz hSw
    go_simp
    all_goals (with_reducible rfl)
  try simp only [Act.put, List.setIfInBounds_toArray, List.set_cons_zero, List.set_cons_succ]
  refine wpAnyH_done (by kernel_rfl) ?_ _
  have hend := Lib.hid (hfin.out W4 hHeld.2.2)
  clear hHeld
  cases V
  all_goals
    go_wp2_with fail
    exact hend.out
end Go.Proofs.YthhblcbnnmoojaaGreatDoor
namespace Go.Proofs.YthhblcbnnmoojaaGreatDoor.lawSignedSpec
open Go.ChangeShapes Go.WideShapes Go.ChangeAt Go.RowKit Go.Mem
open Go.Proofs.YthhblcbnnmoojaaGreatDoor

set_option maxRecDepth 100000 in
theorem lifted (os : Os) (started : os.Started) (H : Type) (enc : TypeId × Value → H) :
    ReturnsInHanded {} Tryz.checked os 3 .any (fun w args => (Rows.directorySignedSpecSpec.pre enc Tryz.prog Tryz.f3 [] false w args ∧ laidMetH Tryz.prog laid2 w) ∧ sizedMet enc Tryz.prog Tryz.f3 (OpenSpec.ofChange Rows.directorySignedSpecSpec) false w args)
      (Rows.directorySignedSpecSpec.post enc Tryz.prog Tryz.f3 false true false false) := by
  refine returnsInHanded_of_change_and (C := Tryz.checked) (X := fun w _ => laidMetH Tryz.prog laid2 w) (fun _ _ _ hh h => h.of_heap hh) own started (by kernel_rfl) Tryz.func3
    (ChangeSpec.witness_shaped (enc := enc) (C := Tryz.checked) (os := os) (X := fun w _ => laidMetH Tryz.prog laid2 w) false (World.doorLaid Tryz.prog 400 os) #[.int .i64 0, .agg (rC Go.Dr.zeroR).toArray] 8 rfl (World.shaped_of_RefB (by kernel_rfl) (by kernel_rfl)) (by kernel_rfl) (by kernel_rfl) (by kernel_rfl) (door_met os _)) ?_
  intro W base args ds gs before hval0 hW _ hwt hL _
  have hval : ∀ (j : Nat) t v, Tryz.f3.params[j]? = some t → args[j]? = some v → Value.okWide Tryz.prog W .any base t v := hval0
  have hW' := hW
  obtain ⟨p, q, hA0, hV, rfl, hfz, hnd⟩ := hW
  have hA : DataW.TrodAll enc Tryz.prog W 0 (fun _ => true) true Tryz.f3.params.toList args.toList ds p := hA0
  rw [Tryz.params3] at hA hval
  obtain ⟨v0, vs0, d0, ds0, p0, q0, hargs, rfl, rfl, h0, r0⟩ := trodAll_cons hA
  obtain ⟨v1, vs1, d1, ds1, p1, q1, rfl, rfl, rfl, h1, r1⟩ := trodAll_cons r0
  obtain ⟨rfl, rfl, rfl⟩ := trodAll_nil r1
  obtain rfl : args = #[v0, v1] := by cases args; simp_all
  obtain ⟨rfl, rfl⟩ := trodVars_none hV
  have lt0 : ∀ x ∈ p0, x.block < W.heap.size := by obtain ⟨m, hm⟩ := h0; exact DataW.trod_lt m _ _ _ hm
  have lt1 : ∀ x ∈ p1, x.block < W.heap.size := by obtain ⟨m, hm⟩ := h1; exact DataW.trod_lt m _ _ _ hm
  have k0' := h0
  have k1' := h1
  obtain ⟨x0, rfl⟩ := okWide_int Tryz.underlying3 (hval 0 3 v0 rfl rfl)
  obtain ⟨m0, hm0⟩ := h0
  obtain ⟨x0', e0, i0⟩ := open_int1 (cs := [.int .i64 x0]) (by simpa [Value.cells] using hm0)
  obtain rfl : x0 = x0' := by simpa using e0
  clear hm0 e0
  obtain ⟨cs1, rfl, _⟩ := okWide_struct Tryz.underlying27 (hval 1 27 v1 rfl rfl)
  obtain ⟨m1, hm1⟩ := h1
  obtain ⟨y1, ok1, e1⟩ := open_rt (cs := cs1.toList) (by simpa [Value.cells] using hm1)
  obtain rfl : cs1 = (rC y1).toArray := by rw [← e1]
  clear hm1 e1
  have hT := tabs_of_laid hL
  clear hA0 hval0
  refine (signedspec_walk x0 i0 y1 ok1 W hT).mono fun e W' ⟨he, bel⟩ => ?_
  subst he
  exact ⟨_, rfl, _, _, _, [], _, [], hW', trodAll_mk1 (shut_bool Tryz.underlying4 _),
    (trodAll_cons_mk (Below.trod laidOut (by kernel_rfl) (of_decide_eq_true (by kernel_rfl)) k0' bel lt0) (trodAll_cons_mk (Below.trod laidOut (by kernel_rfl) (of_decide_eq_true (by kernel_rfl)) k1' bel lt1) trodAll_mk0)), rfl, bel.frame _, fun h => by cases h⟩

theorem over : Rows.DirectorySignedSpecSaid :=
  OpenClaim.holds_of_wide 3 Tryz.f3 rfl rfl rfl rfl rfl rfl rfl ⟨rfl, rfl, rfl, rfl, rfl⟩ rfl rfl rfl rfl rfl (by kernel_rfl) Tryz.func3 (by kernel_rfl)
    (of_decide_eq_true (by kernel_rfl)) (by unfold Func.isWrapper; first | (rw [if_pos (by decide +kernel)]; kernel_rfl) | (rw [if_neg (by decide +kernel)]; exact ⟨rfl, rfl⟩))
    (fun os started H enc _ => lifted os started H enc)

theorem proved : Rows.DirectorySignedSpecCardSaid :=
  Claim7.holds_tied_plain_at .later [] [.data, .data, .sentinel] true (true, "1d3431046d51e23ed24249f1205848a0c04a50149c11ca40710e0fbacd3e68da") false
    over (fun _ h => by cases h) (by kernel_rfl) (fun _ h => by cases h) directorySignedSpec_row_tie rfl ⟨rfl, rfl⟩ (by kernel_rfl) rfl
    (fun f fn hf hfn => by
      obtain rfl : f = 3 := Option.some.inj ((show Tryz.prog.funcNamed "chartroom/chartroomlaw35.DirectorySignedSpec" = some 3 by kernel_rfl).symm.trans hf) |>.symm
      obtain rfl : fn = Tryz.f3 := (Option.some.inj (Tryz.func3.symm.trans hfn)).symm
      exact ⟨by kernel_rfl, fun j t ht => by
        rw [Tryz.params3] at ht
        have hm : t ∈ [3, 27] := by simpa using Array.mem_of_getElem? ht
        have hall : ([3, 27].all fun u => !Tryz.prog.wantsStandIn u) = true := by kernel_rfl
        exact (show Tryz.prog.wantsStandIn t = false by simpa using List.all_eq_true.1 hall t hm)⟩)
    (by kernel_rfl)
#print axioms proved
end Go.Proofs.YthhblcbnnmoojaaGreatDoor.lawSignedSpec
