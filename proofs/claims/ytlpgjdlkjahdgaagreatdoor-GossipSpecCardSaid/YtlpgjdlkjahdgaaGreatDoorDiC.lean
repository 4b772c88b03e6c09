/- directory.ID -/
import Derived.Test.YtlpgjdlkjahdgaaGreatDoorAl
import Derived.Test.YtlpgjdlkjahdgaaGreatDoorDiB
namespace Go
theorem share {p G : Prop} (h : G → p) (key : G) : p := h key
end Go
namespace Go.Proofs.YtlpgjdlkjahdgaaGreatDoor
open Go.RowKit Go.Mem
open Go.Dr (Lst Rt)
def IdW (w : World) (tb : Nat) (x : Rt) (wz : World) : Prop := Blk wz tb 62 (rC x) ∧ (∃ z, z.length = 32 ∧ Blk wz (tb + 1) 43 (bv z)) ∧ tb + 1 + 1 ≤ wz.heap.size ∧ Below w.heap.size w wz
section
variable {w wz wq : World} {tb : Nat} {x : Rt}
theorem IdW.big (h : IdW w tb x wz) : tb + 1 + 1 ≤ wz.heap.size := h.2.2.1
theorem IdW.big2 (h : IdW w tb x wz) : tb + 1 + 1 ≤ wz.heap.size := h.2.2.1
theorem IdW.drew (h : IdW w tb x wz) : IdW w tb x wz.drew := ⟨h.1, h.2.1, h.2.2.1, h.2.2.2.drew⟩
theorem IdW.next (hb : Below (tb + 1 + 1) wz wq) (hw : w.heap.size ≤ tb) (h : IdW w tb x wz) : IdW w tb x wq := by
 obtain ⟨z, hz, hD⟩ := h.2.1
 have hlt := h.1.lt
 exact ⟨h.1.below hb (by omega), ⟨z, hz, hD.below hb (by omega)⟩, Nat.le_trans h.2.2.1 hb.size, h.2.2.2.trans (hb.mono (by omega))⟩
theorem IdW.alloc (h : IdW w tb x wz) (o : Obj) : IdW w tb x (wz.alloc o) := by
 obtain ⟨z, hz, hD⟩ := h.2.1
 exact ⟨h.1.alloc o, ⟨z, hz, hD.alloc o⟩, Nat.le_trans h.2.2.1 (by simp), h.2.2.2.alloc h.2.2.2.size o⟩
end

set_option maxRecDepth 20000 in
set_option maxHeartbeats 4000000 in
theorem id_any (x : Rt) (hx : OkQ x) (w : World) (HT : Tabs w) :
 Calls Tryz.prog 131 #[.agg (rC x).toArray] w (DigPost (Go.Dr.idR x) w) := by
 have HT' := Lib.hid HT
 clear HT
 obtain ⟨tb, htb⟩ : ∃ tb, Hid (w.heap.size = tb) := ⟨_, rfl⟩
 go_enter Tryz.func131, Tryz.ntmps131
 go_upto_region 1 with fail
 rw [htb.out]
 generalize hW : World.alloc _ _ = W
 have hwtb : w.heap.size ≤ tb := Nat.le_of_eq htb.out
 have hM : IdW w tb x W := by
  refine ⟨by rw [← hW, ← htb.out]; exact (Blk.new w _ (rC x)).alloc _, ⟨List.replicate 32 0, by simp, ?_⟩, by rw [← hW, ← htb.out]; simp, by rw [← hW]; exact ((Below.refl _ w).alloc (Nat.le_refl _) _).alloc (by simp) _⟩
  rw [← hW, ← htb.out]
  have := zero_dig (w.alloc (.cells (rC x).toArray 62))
  rw [World.size_alloc] at this
  exact this
 clear hW
 have hns : Hid (∀ u ∈ [x.r, x.s], I64 u) := by
  intro u hu
  simp only [List.mem_cons, List.not_mem_nil, or_false] at hu
  rcases hu with rfl | rfl
  · exact hx.r
  · exact hx.s
 have hms := Lib.hid (message_any x hx)
 have hml : Hid ((Go.Dr.msgR x).length = 72) := by show _ = _; simp [Go.Dr.msgR, Go.Dr.num8, Sha.be_length, hx.dig, hx.prev]
 have hx' := Lib.hid hx
 have z0 : (Tryz.prog.info? 62).map (·.size) = some (rC x).length := by rw [rC_length hx]; exact sizeR
 obtain ⟨D, hfin⟩ : ∃ D, Hid (Sha.tagged (octets ⟨#[114, 111, 111, 116]⟩) (Go.Dr.msgR x ++ numsB [x.r, x.s]) = D) := ⟨_, rfl⟩
 have hDl : Hid (D.length = 32) := by show _ = _; rw [← hfin.out]; exact Sha.tagged_length _ _
 have hDe : Hid (Go.Dr.idR x = D) := by
  show _ = _
  rw [← hfin.out]
  show Sha.tagged _ _ = Sha.tagged _ _
  congr 1
  simp [numsB]
  rfl
 clear hx
 refine share (G := ∀ (B b g : Nat) (W2 : World), IB B b (Go.Dr.msgR x) W2 → Blk W2 g 3 (iv [x.r, x.s]) → g ≠ b → B ≤ W2.heap.size → tb + 1 + 1 ≤ B → IdW w tb x W2 → (?G : Nat → Nat → Nat → World → Prop) B b g W2) ?hkey ?kkey
 case' hkey =>
  intro key
  refine wp_region_held_drew (S := fun wz => IdW w tb x wz) (by kernel_rfl) (hM.drew) (fun hHeld => ?_)
  generalize W.drew = W0 at *
  refine tY 0 rfl tb 0 (rC x) (fun wz h => h.1.range) Tryz.underlying62 z0 hHeld ?_
  refine tQ 2 rfl hHeld ?_
  refine tQ 3 rfl hHeld ?_
  refine tX 4 rfl (fun wz hSw => hSw.1.at_ (rC_r hx'.out)) hHeld ?_
  refine tQ 5 rfl hHeld ?_
  refine tQ 6 rfl hHeld ?_
  refine tX 7 rfl (fun wz hSw => hSw.1.at_ (rC_s hx'.out)) hHeld ?_
  refine rd (rs := [1, 8]) ?_
  refine tR rfl (fun K hK => ?_) (tR rfl (fun K hK => ?_) rn)
  case refine_1 =>
   go_simp
   go_at_call 171
   refine (hms.out W0).mono ?_
   rintro e W1 ⟨b, rfl, hbW, I1, hst⟩
   have hT : tb + 1 + 1 ≤ W0.heap.size := hHeld.big
   refine hK.out _ _ (hHeld.next (hst.mono hHeld.big) hwtb) (fun hHeld2 => ?_)
   clear hK K
   try simp only [Act.put, sA, s0, s1]
   have hHeld0 := hHeld
   clear hHeld
   have hHeld := hHeld2
   clear hHeld2
   refine tO 8 rfl (fun K hK => ?_)
   go_simp
   refine hK.out _ _ (hHeld.alloc _) (fun hHeld2 => ?_)
   clear hK K
   try simp only [Act.put, sA, s0, s1]
   have hHeld0 := hHeld
   clear hHeld
   have hHeld := hHeld2
   clear hHeld2
   change wpAnyH _ _ _ _ _ _ _ _ (World.alloc W1 (.cells (iv [x.r, x.s]).toArray 3))
   have i1 : Blk (World.alloc W1 (.cells (iv [x.r, x.s]).toArray 3)) W1.heap.size 3 (iv [x.r, x.s]) := Blk.new _ _ _
   have I2 := I1.alloc (.cells (iv [x.r, x.s]).toArray 3)
   have e1 : W1.heap.size ≠ b := by have := I1.lt'; omega
   have hB : W0.heap.size ≤ (World.alloc W1 (.cells (iv [x.r, x.s]).toArray 3)).heap.size := by rw [World.size_alloc]; have := hst.size; omega
   have hHeld' : IdW w tb x (World.alloc W1 (.cells (iv [x.r, x.s]).toArray 3)) := hHeld
   clear hHeld hHeld0
   have hHeld := hHeld'
   generalize W1.heap.size = g at *
   generalize World.alloc W1 (.cells (iv [x.r, x.s]).toArray 3) = W2 at *
   generalize W0.heap.size = B at *
   exact key B b g W2 I2 i1 e1 hB hT hHeld

  case refine_2 =>
   go_simp
   refine hK.out _ _ (hHeld.alloc _) (fun hHeld2 => ?_)
   clear hK K
   try simp only [Act.put, sA, s0, s1]
   have hHeld0 := hHeld
   clear hHeld
   have hHeld := hHeld2
   clear hHeld2
   change wpAnyH _ _ _ _ _ _ _ _ (World.alloc W0 (.cells (iv [x.r, x.s]).toArray 3))
   have i1 : Blk (World.alloc W0 (.cells (iv [x.r, x.s]).toArray 3)) W0.heap.size 3 (iv [x.r, x.s]) := Blk.new _ _ _
   have hT : tb + 1 + 1 ≤ (World.alloc W0 (.cells (iv [x.r, x.s]).toArray 3)).heap.size := by rw [World.size_alloc]; have := hHeld0.big2; omega
   have hg : W0.heap.size < (World.alloc W0 (.cells (iv [x.r, x.s]).toArray 3)).heap.size := by simp
   have hHeld' : IdW w tb x (World.alloc W0 (.cells (iv [x.r, x.s]).toArray 3)) := hHeld
   clear hHeld hHeld0
   have hHeld := hHeld'
   clear hHeld'
   generalize W0.heap.size = g at *
   generalize World.alloc W0 (.cells (iv [x.r, x.s]).toArray 3) = W1 at *
   refine tO 1 rfl (fun K hK => ?_)
   go_simp
   go_at_call 171
   refine (hms.out W1).mono ?_
   rintro e W2 ⟨b, rfl, hbW, I1, hst⟩
   refine hK.out _ _ (hHeld.next (hst.mono hHeld.big) hwtb) (fun hHeld2 => ?_)
   clear hK K
   try simp only [Act.put, sA, s0, s1]
   have hHeld0 := hHeld
   clear hHeld
   have hHeld := hHeld2
   clear hHeld2
   have i2 := i1.below hst hg
   have hz := hst.size
   have e1 : g ≠ b := by omega
   generalize W1.heap.size = B at *
   exact key B b g W2 I1 i2 e1 hz hT hHeld

 case kkey =>
  intro B b g W2 I2 i1 e1 hB hT hHeld
  refine tO 9 rfl (fun K hK => ?_)
  go_simp
  go_at_call 174
  refine (numbers_any B b (Go.Dr.msgR x) g 2 2 [x.r, x.s] W2 I2 hB i1 e1 rfl (by omega) (by omega) (by omega) hns.out (by rw [hml.out]; decide)).mono ?_
  rintro e W3 ⟨rfl, I3, F3⟩
  refine hK.out _ _ (hHeld.next (F3.bel.mono hT) hwtb) (fun hHeld2 => ?_)
  clear hK K
  try simp only [Act.put, sA, s0, s1]
  have hHeld0 := hHeld
  clear hHeld
  have hHeld := hHeld2
  clear hHeld2
  refine tO 10 rfl (fun K hK => ?_)
  go_simp
  go_at_call 175
  refine (under_any ⟨#[114, 111, 111, 116]⟩ (by decide) B b _ W3 (HT'.out.below hHeld.2.2.2) I3 (by rw [List.length_append, hml.out]; simp [numsB, numB_length])).mono ?_
  rintro e W4 ⟨rfl, hst⟩
  rw [hfin.out]
  refine hK.out _ _ (hHeld.next (hst.mono hHeld.big) hwtb) (fun hHeld2 => ?_)
  clear hK K
  try simp only [Act.put, sA, s0, s1]
  have hHeld0 := hHeld
  clear hHeld
  have hHeld := hHeld2
  clear hHeld2
  refine rd (rs := [11]) ?_
  refine AllReadyH.cons (o := ⟨none, .store 43 (.tmp 2) (.tmp 13), 0, "directory.go:205", #[⟨10, .data⟩, ⟨10, .chain⟩, ⟨0, .phase⟩, ⟨1, .phase⟩, ⟨2, .phase⟩, ⟨3, .phase⟩, ⟨4, .phase⟩, ⟨5, .phase⟩, ⟨6, .phase⟩, ⟨7, .phase⟩, ⟨8, .phase⟩, ⟨9, .phase⟩, ⟨10, .phase⟩], none⟩) rfl (fun K hK => ?_) AllReadyH.nil
  obtain ⟨z, hz, hD4⟩ := hHeld.2.1
  obtain ⟨W9, hP, hpost⟩ := ret_dig (D := D) hD4 hz hDl.out hHeld.2.2.2 (by omega)
  rw [if_pos (by rfl)]
  refine wp_store_mid 43 _ _ rfl (tb + 1) 0 (bv D).toArray (by rfl) (by rfl) hP.there hP.info (by simpa using hP.one) ?_
  generalize hWq : World.setCells _ _ _ _ = Wa
  obtain rfl : W9 = Wa := by rw [← hWq]; exact hP.eq
  clear hWq
  refine hK.out _ _ ⟨hHeld.1.grown hP.grown (by intro e; injection e; omega), ⟨D, hDl.out, hP.blk⟩, by have := hP.grown.size; have := hHeld.2.2.1; omega, hpost.2⟩ (fun _ => ?_)
  clear hK K
  try simp only [Act.put]
  refine wpAnyH_done (by kernel_rfl) ?_ _
  go_wp2_with fail
  exact bodyPost_ret (results_cell_row rfl _ _ (tb + 1) 43 (bv D).toArray (0, 0) _ rfl hP.blk Tryz.underlying43 rfl hP.info) rfl (by rw [hDe.out]; exact hpost)

end Go.Proofs.YtlpgjdlkjahdgaaGreatDoor
