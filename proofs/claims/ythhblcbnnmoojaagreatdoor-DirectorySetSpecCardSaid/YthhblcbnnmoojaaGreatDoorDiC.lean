/- directory.ID -/
import Derived.Test.YthhblcbnnmoojaaGreatDoorDiB
namespace Go
/-- a state that several ways reach is walked once. -/
theorem share {p G : Prop} (h : G → p) (key : G) : p := h key
end Go
namespace Go.Proofs.YthhblcbnnmoojaaGreatDoor
open Go.RowKit Go.Mem
open Go.Dr (Lst Rt)
/-- what the walk of ID keeps: the root's box, the result's cell, and all that lay before. -/
def IdW (w : World) (tb : Nat) (x : Rt) (wz : World) : Prop := Blk wz tb 27 (rC x) ∧ (∃ z, z.length = 32 ∧ Blk wz (tb + 1) 23 (bv z)) ∧ tb + 1 + 1 ≤ wz.heap.size ∧ Below w.heap.size w wz
section
variable {w wz wq : World} {tb : Nat} {x : Rt}
theorem IdW.big (h : IdW w tb x wz) : tb + 1 + 1 ≤ wz.heap.size := h.2.2.1
theorem IdW.big2 (h : IdW w tb x wz) : tb + 1 + 1 ≤ wz.heap.size := h.2.2.1
theorem IdW.drew (h : IdW w tb x wz) : IdW w tb x wz.drew := ⟨h.1, h.2.1, h.2.2.1, h.2.2.2.drew⟩
theorem IdW.next (hb : Below (tb + 1 + 1) wz wq) (hw : w.heap.size ≤ tb) (h : IdW w tb x wz) : IdW w tb x wq := by
  obtain ⟨z, hz, hD⟩ := h.2.1
  have hlt := h.1.lt
  exact ⟨h.1.below hb (by omega), ⟨z, hz, hD.below hb (by omega)⟩, Nat.le_trans h.2.2.1 hb.size, h.2.2.2.trans (hb.mono (by omega))⟩
theorem IdW.alloc (h : IdW w tb x wz) (o : Obj) : IdW w tb x (wz.alloc o) := by
  obtain ⟨z, hz, hD⟩ := h.2.1
  exact ⟨h.1.alloc o, ⟨z, hz, hD.alloc o⟩, Nat.le_trans h.2.2.1 (by simp), h.2.2.2.alloc h.2.2.2.size o⟩
end

set_option maxRecDepth 20000 in
set_option maxHeartbeats 4000000 in
theorem id_any (x : Rt) (hx : OkQ x) (w : World) (HT : Tabs w) :
    Calls Tryz.prog 10 #[.agg (rC x).toArray] w (DigPost (Go.Dr.idR x) w) := by
  have HT' := Lib.hid HT
  clear HT
  obtain ⟨tb, htb⟩ : ∃ tb, Hid (w.heap.size = tb) := ⟨_, rfl⟩
  go_enter Tryz.func10, Tryz.ntmps10
  go_upto_region 1 with fail
  rw [htb.out]
  generalize hW : World.alloc _ _ = W
  have hwtb : w.heap.size ≤ tb := Nat.le_of_eq htb.out
  have hM : IdW w tb x W := by
    refine ⟨by rw [← hW, ← htb.out]; exact (Blk.new w _ (rC x)).alloc _, ⟨List.replicate 32 0, by simp, ?_⟩, by rw [← hW, ← htb.out]; simp, by rw [← hW]; exact ((Below.refl _ w).alloc (Nat.le_refl _) _).alloc (by simp) _⟩
    rw [← hW, ← htb.out]
    have := zero_dig (w.alloc (.cells (rC x).toArray 27))
    rw [World.size_alloc] at this
    exact this
  clear hW
  have hns : Hid (∀ u ∈ [x.r, x.s], I64 u) := by
    intro u hu
    simp only [List.mem_cons, List.not_mem_nil, or_false] at hu
    rcases hu with rfl | rfl
    · exact hx.r
    · exact hx.s
  have hms := Lib.hid (message_any x hx)
  have hml : Hid ((Go.Dr.msgR x).length = 72) := by show _ = _; simp [Go.Dr.msgR, Go.Dr.num8, Sha.be_length, hx.dig, hx.prev]
  have hx' := Lib.hid hx
  have z0 : (Tryz.prog.info? 27).map (·.size) = some (rC x).length := by rw [rC_length hx]; exact sizeR
  obtain ⟨D, hfin⟩ : ∃ D, Hid (Sha.tagged (octets ⟨#[114, 111, 111, 116]⟩) (Go.Dr.msgR x ++ numsB [x.r, x.s]) = D) := ⟨_, rfl⟩
  have hDl : Hid (D.length = 32) := by show _ = _; rw [← hfin.out]; exact Sha.tagged_length _ _
  have hDe : Hid (Go.Dr.idR x = D) := by
    show _ = _
    rw [← hfin.out]
    show Sha.tagged _ _ = Sha.tagged _ _
    congr 1
    simp [numsB]
    rfl
  clear hx
  refine share (G := ∀ (B b g : Nat) (W2 : World), IB B b (Go.Dr.msgR x) W2 → Blk W2 g 3 (iv [x.r, x.s]) → g ≠ b → B ≤ W2.heap.size → tb + 1 + 1 ≤ B → IdW w tb x W2 → (?G : Nat → Nat → Nat → World → Prop) B b g W2) ?hkey ?kkey
  case' hkey =>
    intro key
    refine wp_region_held_drew (S := fun wz => IdW w tb x wz) (by kernel_rfl) (hM.drew) (fun hHeld => ?_)
    generalize W.drew = W0 at *
    refine wpAnyH_take (i := 0) (oi := { dst := some 3, op := Op.load 27 (Operand.tmp 1), type := 27, pos := "directory.go:205", after := #[], guard := none }) rfl (by kernel_rfl) (by kernel_rfl) (by kernel_rfl) (fun _ _ _ h => h) (yieldsIf_load_mid (by rfl) _ _ rfl tb 0 rfl (rC x) _ (fun wz h => h.1.range) Tryz.underlying27 rfl (z0)) hHeld ?_
    try simp only [Act.put, List.setIfInBounds_toArray, List.set_cons_zero, List.set_cons_succ]
    refine wpAnyH_take (i := 2) (oi := { dst := some 5, op := Op.fieldAddr 27 (Operand.tmp 1) 3, type := 0, pos := "directory.go:205", after := #[], guard := none }) (v := ?_) rfl (by kernel_rfl) (by kernel_rfl) (by kernel_rfl) (fun _ _ _ h => h) (Or.inl ⟨by rfl, ?_⟩) hHeld ?_
    rotate_left
    · intro wz hSw
      go_simp
      all_goals (with_reducible rfl)
    try simp only [Act.put, List.setIfInBounds_toArray, List.set_cons_zero, List.set_cons_succ]
    refine wpAnyH_take (i := 3) (oi := { dst := some 6, op := Op.fieldAddr 25 (Operand.tmp 5) 0, type := 0, pos := "directory.go:205", after := #[{ on := 2, ground := Ground.data }], guard := none }) (v := ?_) rfl (by kernel_rfl) (by kernel_rfl) (by kernel_rfl) (fun _ _ _ h => h) (Or.inl ⟨by rfl, ?_⟩) hHeld ?_
    rotate_left
    · intro wz hSw
      go_simp
      all_goals (with_reducible rfl)
    try simp only [Act.put, List.setIfInBounds_toArray, List.set_cons_zero, List.set_cons_succ]
    refine wpAnyH_take (i := 4) (oi := { dst := some 7, op := Op.load 3 (Operand.tmp 6), type := 3, pos := "directory.go:205", after := #[{ on := 3, ground := Ground.data }], guard := none }) (v := ?_) rfl (by kernel_rfl) (by kernel_rfl) (by kernel_rfl) (fun _ _ _ h => h) (Or.inl ⟨by rfl, ?_⟩) hHeld ?_
    rotate_left
    · intro wz hSw
      have q0 := hSw.1.at_ (rC_r hx'.out)
      go_simp
      all_goals (with_reducible rfl)
    try simp only [Act.put, List.setIfInBounds_toArray, List.set_cons_zero, List.set_cons_succ]
    refine wpAnyH_take (i := 5) (oi := { dst := some 8, op := Op.fieldAddr 27 (Operand.tmp 1) 3, type := 0, pos := "directory.go:205", after := #[], guard := none }) (v := ?_) rfl (by kernel_rfl) (by kernel_rfl) (by kernel_rfl) (fun _ _ _ h => h) (Or.inl ⟨by rfl, ?_⟩) hHeld ?_
    rotate_left
    · intro wz hSw
      go_simp
      all_goals (with_reducible rfl)
    try simp only [Act.put, List.setIfInBounds_toArray, List.set_cons_zero, List.set_cons_succ]
    refine wpAnyH_take (i := 6) (oi := { dst := some 9, op := Op.fieldAddr 25 (Operand.tmp 8) 1, type := 0, pos := "directory.go:205", after := #[{ on := 5, ground := Ground.data }], guard := none }) (v := ?_) rfl (by kernel_rfl) (by kernel_rfl) (by kernel_rfl) (fun _ _ _ h => h) (Or.inl ⟨by rfl, ?_⟩) hHeld ?_
    rotate_left
    · intro wz hSw
      go_simp
      all_goals (with_reducible rfl)
    try simp only [Act.put, List.setIfInBounds_toArray, List.set_cons_zero, List.set_cons_succ]
    refine wpAnyH_take (i := 7) (oi := { dst := some 10, op := Op.load 3 (Operand.tmp 9), type := 3, pos := "directory.go:205", after := #[{ on := 6, ground := Ground.data }], guard := none }) (v := ?_) rfl (by kernel_rfl) (by kernel_rfl) (by kernel_rfl) (fun _ _ _ h => h) (Or.inl ⟨by rfl, ?_⟩) hHeld ?_
    rotate_left
    · intro wz hSw
      have q0 := hSw.1.at_ (rC_s hx'.out)
      go_simp
      all_goals (with_reducible rfl)
    try simp only [Act.put, List.setIfInBounds_toArray, List.set_cons_zero, List.set_cons_succ]
    refine wpAnyH_ready (rs := [1, 8]) (by kernel_rfl) (by simp) ?_
    refine AllReadyH.cons (o := { dst := some 4, op := Op.call { callee := Callee.value (Operand.func 42), args := #[Operand.tmp 3], argTypes := #[27] }, type := 70, pos := "directory.go:205", after := #[{ on := 0, ground := Ground.data }], guard := none }) rfl (fun K hK => ?_) (AllReadyH.cons (o := { dst := some 11, op := Op.buildSlice 117 2 #[(0, Operand.tmp 7), (1, Operand.tmp 10)], type := 117, pos := "directory.go:205", after := #[{ on := 4, ground := Ground.data }, { on := 7, ground := Ground.data }], guard := none }) rfl (fun K hK => ?_) AllReadyH.nil)
    case refine_1 =>
      rw [if_pos (by rfl)]
      show Oper.wp _ _ _ _ K _
      go_simp
      go_at_call 42
      refine (hms.out W0).mono ?_
      rintro e W1 ⟨b, rfl, hbW, I1, hst⟩
      have hT : tb + 1 + 1 ≤ W0.heap.size := hHeld.big
      refine hK.out _ _ (hHeld.next (hst.mono hHeld.big) hwtb) (fun hHeld2 => ?_)
      clear hK K
      try simp only [Act.put, List.setIfInBounds_toArray, List.set_cons_zero, List.set_cons_succ]
      have hHeld0 := hHeld
      clear hHeld
      have hHeld := hHeld2
      clear hHeld2
      refine wpAnyH_ready (rs := [8]) (by kernel_rfl) (by simp) ?_
      refine AllReadyH.cons (o := { dst := some 11, op := Op.buildSlice 117 2 #[(0, Operand.tmp 7), (1, Operand.tmp 10)], type := 117, pos := "directory.go:205", after := #[{ on := 4, ground := Ground.data }, { on := 7, ground := Ground.data }], guard := none }) rfl (fun K hK => ?_) AllReadyH.nil
      rw [if_pos (by rfl)]
      show Oper.wp _ _ _ _ K _
      go_simp
      refine hK.out _ _ (hHeld.alloc _) (fun hHeld2 => ?_)
      clear hK K
      try simp only [Act.put, List.setIfInBounds_toArray, List.set_cons_zero, List.set_cons_succ]
      have hHeld0 := hHeld
      clear hHeld
      have hHeld := hHeld2
      clear hHeld2
      change wpAnyH _ _ _ _ _ _ _ _ (World.alloc W1 (.cells (iv [x.r, x.s]).toArray 3))
      have i1 : Blk (World.alloc W1 (.cells (iv [x.r, x.s]).toArray 3)) W1.heap.size 3 (iv [x.r, x.s]) := Blk.new _ _ _
      have I2 := I1.alloc (.cells (iv [x.r, x.s]).toArray 3)
      have e1 : W1.heap.size ≠ b := by have := I1.lt'; omega
      have hB : W0.heap.size ≤ (World.alloc W1 (.cells (iv [x.r, x.s]).toArray 3)).heap.size := by rw [World.size_alloc]; have := hst.size; omega
      have hHeld' : IdW w tb x (World.alloc W1 (.cells (iv [x.r, x.s]).toArray 3)) := hHeld
      clear hHeld hHeld0
      have hHeld := hHeld'
      generalize W1.heap.size = g at *
      generalize World.alloc W1 (.cells (iv [x.r, x.s]).toArray 3) = W2 at *
      generalize W0.heap.size = B at *
      exact key B b g W2 I2 i1 e1 hB hT hHeld

    case refine_2 =>
      rw [if_pos (by rfl)]
      show Oper.wp _ _ _ _ K _
      go_simp
      refine hK.out _ _ (hHeld.alloc _) (fun hHeld2 => ?_)
      clear hK K
      try simp only [Act.put, List.setIfInBounds_toArray, List.set_cons_zero, List.set_cons_succ]
      have hHeld0 := hHeld
      clear hHeld
      have hHeld := hHeld2
      clear hHeld2
      change wpAnyH _ _ _ _ _ _ _ _ (World.alloc W0 (.cells (iv [x.r, x.s]).toArray 3))
      have i1 : Blk (World.alloc W0 (.cells (iv [x.r, x.s]).toArray 3)) W0.heap.size 3 (iv [x.r, x.s]) := Blk.new _ _ _
      have hT : tb + 1 + 1 ≤ (World.alloc W0 (.cells (iv [x.r, x.s]).toArray 3)).heap.size := by rw [World.size_alloc]; have := hHeld0.big2; omega
      have hg : W0.heap.size < (World.alloc W0 (.cells (iv [x.r, x.s]).toArray 3)).heap.size := by simp
      have hHeld' : IdW w tb x (World.alloc W0 (.cells (iv [x.r, x.s]).toArray 3)) := hHeld
      clear hHeld hHeld0
      have hHeld := hHeld'
      clear hHeld'
      generalize W0.heap.size = g at *
      generalize World.alloc W0 (.cells (iv [x.r, x.s]).toArray 3) = W1 at *
      refine wpAnyH_ready (rs := [1]) (by kernel_rfl) (by simp) ?_
      refine AllReadyH.cons (o := { dst := some 4, op := Op.call { callee := Callee.value (Operand.func 42), args := #[Operand.tmp 3], argTypes := #[27] }, type := 70, pos := "directory.go:205", after := #[{ on := 0, ground := Ground.data }], guard := none }) rfl (fun K hK => ?_) AllReadyH.nil
      rw [if_pos (by rfl)]
      show Oper.wp _ _ _ _ K _
      go_simp
      go_at_call 42
      refine (hms.out W1).mono ?_
      rintro e W2 ⟨b, rfl, hbW, I1, hst⟩
      refine hK.out _ _ (hHeld.next (hst.mono hHeld.big) hwtb) (fun hHeld2 => ?_)
      clear hK K
      try simp only [Act.put, List.setIfInBounds_toArray, List.set_cons_zero, List.set_cons_succ]
      have hHeld0 := hHeld
      clear hHeld
      have hHeld := hHeld2
      clear hHeld2
      have i2 := i1.below hst hg
      have hz := hst.size
      have e1 : g ≠ b := by omega
      generalize W1.heap.size = B at *
      exact key B b g W2 I1 i2 e1 hz hT hHeld

  case kkey =>
    intro B b g W2 I2 i1 e1 hB hT hHeld
    refine wpAnyH_ready (rs := [9]) (by kernel_rfl) (by simp) ?_
    refine AllReadyH.cons (o := { dst := some 12, op := Op.call { callee := Callee.value (Operand.func 43), args := #[Operand.tmp 4, Operand.tmp 11], argTypes := #[70, 117] }, type := 70, pos := "directory.go:205", after := #[{ on := 1, ground := Ground.data }, { on := 8, ground := Ground.data }, { on := 1, ground := Ground.chain }], guard := none }) rfl (fun K hK => ?_) AllReadyH.nil
    rw [if_pos (by rfl)]
    show Oper.wp _ _ _ _ K _
    go_simp
    go_at_call 43
    refine (numbers_any B b (Go.Dr.msgR x) g 2 2 [x.r, x.s] W2 I2 hB i1 e1 rfl (by omega) (by omega) (by omega) hns.out (by rw [hml.out]; decide)).mono ?_
    rintro e W3 ⟨rfl, I3, F3⟩
    refine hK.out _ _ (hHeld.next (F3.bel.mono hT) hwtb) (fun hHeld2 => ?_)
    clear hK K
    try simp only [Act.put, List.setIfInBounds_toArray, List.set_cons_zero, List.set_cons_succ]
    have hHeld0 := hHeld
    clear hHeld
    have hHeld := hHeld2
    clear hHeld2
    refine wpAnyH_ready (rs := [10]) (by kernel_rfl) (by simp) ?_
    refine AllReadyH.cons (o := { dst := some 13, op := Op.call { callee := Callee.value (Operand.func 44), args := #[Operand.tmp 12, Operand.const (Value.string { data := #[114, 111, 111, 116] })], argTypes := #[70, 9] }, type := 23, pos := "directory.go:205", after := #[{ on := 9, ground := Ground.data }, { on := 9, ground := Ground.chain }], guard := none }) rfl (fun K hK => ?_) AllReadyH.nil
    rw [if_pos (by rfl)]
    show Oper.wp _ _ _ _ K _
    go_simp
    go_at_call 44
    refine (under_any ⟨#[114, 111, 111, 116]⟩ (by decide) B b _ W3 (HT'.out.below hHeld.2.2.2) I3 (by rw [List.length_append, hml.out]; simp [numsB, numB_length])).mono ?_
    rintro e W4 ⟨rfl, hst⟩
    rw [hfin.out]
    refine hK.out _ _ (hHeld.next (hst.mono hHeld.big) hwtb) (fun hHeld2 => ?_)
    clear hK K
    try simp only [Act.put, List.setIfInBounds_toArray, List.set_cons_zero, List.set_cons_succ]
    have hHeld0 := hHeld
    clear hHeld
    have hHeld := hHeld2
    clear hHeld2
    refine wpAnyH_ready (rs := [11]) (by kernel_rfl) (by simp) ?_
    refine AllReadyH.cons (o := { dst := none, op := Op.store 23 (Operand.tmp 2) (Operand.tmp 13), type := 0, pos := "directory.go:205", after := #[{ on := 10, ground := Ground.data }, { on := 10, ground := Ground.chain }, { on := 0, ground := Ground.phase }, { on := 1, ground := Ground.phase }, { on := 2, ground := Ground.phase }, { on := 3, ground := Ground.phase }, { on := 4, ground := Ground.phase }, { on := 5, ground := Ground.phase }, { on := 6, ground := Ground.phase }, { on := 7, ground := Ground.phase }, { on := 8, ground := Ground.phase }, { on := 9, ground := Ground.phase }, { on := 10, ground := Ground.phase }], guard := none }) rfl (fun K hK => ?_) AllReadyH.nil
    obtain ⟨z, hz, hD4⟩ := hHeld.2.1
    obtain ⟨W9, hP, hpost⟩ := ret_dig (D := D) hD4 hz hDl.out hHeld.2.2.2 (by omega)
    rw [if_pos (by rfl)]
    refine wp_store_mid 23 _ _ rfl (tb + 1) 0 (bv D).toArray (by rfl) (by rfl) hP.there hP.info (by simpa using hP.one) ?_
    generalize hWq : World.setCells _ _ _ _ = Wa
    obtain rfl : W9 = Wa := by rw [← hWq]; exact hP.eq
    clear hWq
    refine hK.out _ _ ⟨hHeld.1.grown hP.grown (by intro e; injection e; omega), ⟨D, hDl.out, hP.blk⟩, by have := hP.grown.size; have := hHeld.2.2.1; omega, hpost.2⟩ (fun _ => ?_)
    clear hK K
    try simp only [Act.put]
    refine wpAnyH_done (by kernel_rfl) ?_ _
    go_wp2_with fail
    exact bodyPost_ret (results_cell_row rfl _ _ (tb + 1) 23 (bv D).toArray (0, 0) _ rfl hP.blk Tryz.underlying23 rfl hP.info) rfl (by rw [hDe.out]; exact hpost)

end Go.Proofs.YthhblcbnnmoojaaGreatDoor
