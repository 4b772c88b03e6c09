/- directory.hashed$1, hashed, Digest -/
import Derived.Test.YtlpgjdlkjahdgaaGreatDoorAl
import Derived.Test.YtlpgjdlkjahdgaaGreatDoorDiE
namespace Go.Dr
theorem leaf_ofX (l : List Lst) (dev : Int) : leafOf (ofX l dev) (!(ofL l dev).isSome) = leafD l dev := by
 unfold leafD ofX leafOf
 cases h : ofL l dev with
 | none => rfl
 | some x => rfl
end Go.Dr
namespace Go.Proofs.YtlpgjdlkjahdgaaGreatDoor
open Go.RowKit Go.Mem
open Go.Dr (Lst Rt)

def hashV (lb fb : Nat) : Value := .func (.func 218) #[] #[.pointer (some ⟨lb, 0, none⟩), .pointer (some ⟨fb, 0, none⟩)]
structure HasH (K : Nat → Prop) (a : Option Addr) (n c : Nat) (l : List Lst) (lb fb : Nat) (w : World) : Prop where
 lc : w.cell? ⟨lb, 0, none⟩ = some (.slice a n c)
 llt : lb < w.heap.size
 fc : w.cell? ⟨fb, 0, none⟩ = some (hashV lb fb)
 flt : fb < w.heap.size
 gs : GS K w a n c l
 tabs : Tabs w
section
variable {K : Nat → Prop} {a : Option Addr} {n c : Nat} {l : List Lst} {lb fb : Nat} {w w' : World}
theorem HasH.below (h : HasH K a n c l lb fb w) (hb : Below w.heap.size w w') : HasH K a n c l lb fb w' :=
 ⟨(hb.cell (p := ⟨lb, 0, none⟩) h.llt).trans h.lc, Nat.lt_of_lt_of_le h.llt hb.size, (hb.cell (p := ⟨fb, 0, none⟩) h.flt).trans h.fc, Nat.lt_of_lt_of_le h.flt hb.size, h.gs.below hb, h.tabs.below hb⟩
end
def HasW (K : Nat → Prop) (a : Option Addr) (n c : Nat) (l : List Lst) (lb fb : Nat) (w : World) (tb : Nat) (wz : World) : Prop :=
 (∃ z, z.length = 32 ∧ Blk wz tb 43 (bv z)) ∧ Below w.heap.size w wz ∧ HasH K a n c l lb fb wz
section
variable {K : Nat → Prop} {a : Option Addr} {n c : Nat} {l : List Lst} {lb fb tb : Nat} {w wz wq : World}
theorem HasW.drew (h : HasW K a n c l lb fb w tb wz) : HasW K a n c l lb fb w tb wz.drew := ⟨h.1, h.2.1.drew, h.2.2.below (below_drewN _ 1 _)⟩
theorem HasW.next (h : HasW K a n c l lb fb w tb wz) (hb : Below wz.heap.size wz wq) : HasW K a n c l lb fb w tb wq := by
 obtain ⟨⟨z, hz, hD⟩, h2, h3⟩ := h
 exact ⟨⟨z, hz, hD.below hb hD.lt⟩, h2.trans (hb.mono h2.size), h3.below hb⟩
end
theorem GS.ok {K : Nat → Prop} {a : Option Addr} {n c : Nat} {l : List Lst} {w : World} (h : GS K w a n c l) {x : Lst} (hx : x ∈ l) : OkG x := by
 obtain ⟨i, hi⟩ := List.mem_iff_getElem?.1 hx
 obtain ⟨_, _, _, _, _, ho, _⟩ := h.cells hi
 exact ho
theorem i64_0 : I64 0 := by constructor <;> decide
theorem ofX_ok {K : Nat → Prop} {a : Option Addr} {n c : Nat} {l : List Lst} {w : World} (h : GS K w a n c l) {dev : Int} (hd : I64 dev) : OkG (Go.Dr.ofX l dev) := by
 unfold Go.Dr.ofX
 cases e : Go.Dr.ofL l dev with
 | none => exact ⟨hd, i64_0, i64_0, i64_0⟩
 | some x => exact h.ok (List.mem_of_find?_eq_some e)

set_option maxRecDepth 20000 in
set_option maxHeartbeats 4000000 in
theorem at0_any (K : Nat → Prop) (a : Option Addr) (n c : Nat) (l : List Lst) (lb fb : Nat) (node : Nat) (h0 : 512 ≤ node) (h1 : node < 1024) (w : World) (H : HasH K a n c l lb fb w) :
 Calls Tryz.prog 218 #[.int .i64 node, .pointer (some ⟨lb, 0, none⟩), .pointer (some ⟨fb, 0, none⟩)] w (DigPost (Go.Dr.nodeD l 0 node) w) := by
 have H' := Lib.hid H
 clear H
 obtain ⟨tb, htb⟩ : ∃ tb, Hid (w.heap.size = tb) := ⟨_, rfl⟩
 have hge : (512 : Int) ≤ (node : Int) := by omega
 have hws : IntKind.i64.wrap ((node : Int) - 512) = (node : Int) - 512 := IntWalk.i64_in _ (by omega)
 obtain ⟨dev, hdev⟩ : ∃ d : Int, Hid ((node : Int) - 512 = d) := ⟨_, rfl⟩
 have hnd : Hid (Go.Dr.nodeD l 0 node = Go.Dr.leafD l dev) := by show _ = _; rw [← hdev.out]; rfl
 rw [hdev.out] at hws
 have hdI : I64 dev := by rw [← hdev.out]; constructor <;> omega
 go_enter Tryz.func218, Tryz.ntmps218
 go_upto_region 1 with fail
 rw [htb.out]
 generalize hW : World.alloc _ _ = W
 have hb : Hid (Below w.heap.size w W) := by rw [← hW]; exact (Below.refl _ w).alloc (Nat.le_refl _) _
 have hD : Hid (Blk W tb 43 (bv (List.replicate 32 0))) := by rw [← hW, ← htb.out]; exact zero_dig w
 clear hW
 have H1 := Lib.hid (H'.out.below hb.out)
 have c1 := H1.out.lc
 have hdv := hdev.out
 have hof := Lib.hid (of_any K a n c l dev W H1.out.gs)
 go_wp2_with fail
 refine hof.out.mono ?_
 rintro e w1 ⟨rfl, hb1⟩
 have hxo := ofX_ok H1.out.gs hdI
 have hlf := Go.Dr.leaf_ofX l dev
 generalize Go.Dr.ofX l dev = x at *
 generalize (Go.Dr.ofL l dev).isSome = q at *
 have hb2 := hb.out.trans (hb1.mono hb.out.size)
 obtain ⟨W2, hP, hb3⟩ := box_g w1 x
 have hb4 : Hid (Below w.heap.size w W2) := hb2.trans (hb3.mono hb2.size)
 have hD2 : Hid (Blk W2 tb 43 (bv (List.replicate 32 0))) := (hD.out.below hb1 hD.out.lt).below hb3 (hD.out.below hb1 hD.out.lt).lt
 have hlc := Lib.hid (leaf_any x hxo (!q) W2 (H'.out.tabs.below hb4.out))
 have hfin : Hid (Go.Dr.leafOf x (!q) = Go.Dr.nodeD l 0 node) := by show _ = _; rw [hlf, hnd.out]
 rw [hfin.out] at hlc
 obtain ⟨D, hDd⟩ : ∃ D, Hid (Go.Dr.nodeD l 0 node = D) := ⟨_, rfl⟩
 have hDl : Hid (D.length = 32) := by show _ = _; rw [← hDd.out]; exact Go.Dr.nodeD_length l 0 node
 rw [hDd.out] at hlc
 have hfn : Hid (∀ W9, Below w.heap.size w W9 → DigPost (Go.Dr.nodeD l 0 node) w (.returned (.agg (bv D).toArray)) W9) := fun W9 h => by rw [hDd.out]; exact ⟨rfl, h⟩
 have hr3 := Lib.hid hP.blk.range
 have hP' := Lib.hid hP
 have hi : Hid ((Tryz.prog.info? 118).map (·.size) = some (gC x).length) := sizeG
 obtain ⟨xb, hxb⟩ : ∃ xb, Hid (w1.heap.size = xb) := ⟨_, rfl⟩
 rw [hxb.out] at hP' hr3
 obtain ⟨r, hr⟩ : ∃ r, Hid (gC x = r) := ⟨_, rfl⟩
 rw [hr.out] at hP' hr3 hi hlc ⊢
 clear hP hb1 hb2 hb3 hxo hlf hD H1 hof c1 hb hfin
 go_wp2_with (first
  | (rw [hxb.out]; refine wpList_store_mid (by rfl) 118 (.tmp 5) (.tmp 14) (by rfl) xb 0 r.toArray (by rfl) (by rfl) hP'.out.there hP'.out.info (by simpa using hP'.out.one) ?_
     generalize hWq : World.setCells _ _ _ _ = Wa
     obtain rfl : W2 = Wa := by rw [← hWq]; exact hP'.out.eq
     clear hWq)
      | (refine wpList_load_mid (by rfl) 118 (.tmp 5) (by rfl) xb 0 (by rfl) r _ hr3.out Tryz.underlying118 (by rfl) hi.out ?_))
 refine hlc.out.mono ?_
 rintro e w3 ⟨rfl, hb5⟩
 obtain ⟨W9, hP9, hpost⟩ := ret_dig (D := D) (hD2.out.below hb5 hD2.out.lt) (by simp) hDl.out (hb4.out.trans (hb5.mono hb4.out.size)) (Nat.le_of_eq htb.out)
 have hP9' := Lib.hid hP9; have hpost' := Lib.hid (hfn.out _ hpost.2)
 clear hP9 hpost hb5 hP' hD2 hr3 hb4
 generalize bv D = RES at *
 go_wp2_with (refine wpList_store_mid (by rfl) 43 (.tmp 4) (.tmp 19) (by rfl) tb 0 RES.toArray (by rfl) (by rfl) hP9'.out.there hP9'.out.info (by simpa using hP9'.out.one) ?_)
 generalize hW9 : World.setCells _ _ _ _ = Wa
 obtain rfl : W9 = Wa := by rw [← hW9]; exact hP9'.out.eq
 exact bodyPost_ret (results_cell_row rfl _ _ tb 43 RES.toArray (0, 0) _ rfl hP9'.out.blk Tryz.underlying43 rfl hP9'.out.info) rfl hpost'.out

theorem HasH.grown {K : Nat → Prop} {a : Option Addr} {n c : Nat} {l : List Lst} {lb fb g : Nat} {w w' : World} (h : HasH K a n c l lb fb w) (hg : w.grownBy w' (some g)) (h1 : lb ≠ g) (h2 : fb ≠ g) (h3 : ∀ ad, 0 < n → a = some ad → ad.block ≠ g) (h4 : Tabs w') : HasH K a n c l lb fb w' :=
 ⟨hg.cell h.lc (fun e => h1 (Option.some.inj e)), Nat.lt_of_lt_of_le h.llt hg.size, hg.cell h.fc (fun e => h2 (Option.some.inj e)), Nat.lt_of_lt_of_le h.flt hg.size, by
  obtain ⟨rows, hr, ho⟩ := h.gs.rows
  exact ⟨h.gs.len, h.gs.sep, rows, hr.grown hg (fun hn ad e => by intro e2; exact h3 ad hn e (Option.some.inj e2)), ho⟩, h4⟩

set_option maxRecDepth 20000 in
set_option maxHeartbeats 4000000 in
theorem at_step (K : Nat → Prop) (a : Option Addr) (n c : Nat) (l : List Lst) (lb fb : Nat) (k node : Nat) (hk : node < 512) (hn0 : 0 < node)
 (i1 : ∀ W, HasH K a n c l lb fb W → Calls Tryz.prog 218 #[.int .i64 ((2 * node : Nat) : Int), .pointer (some ⟨lb, 0, none⟩), .pointer (some ⟨fb, 0, none⟩)] W (DigPost (Go.Dr.nodeD l k (2 * node)) W))
 (i2 : ∀ W, HasH K a n c l lb fb W → Calls Tryz.prog 218 #[.int .i64 ((2 * node + 1 : Nat) : Int), .pointer (some ⟨lb, 0, none⟩), .pointer (some ⟨fb, 0, none⟩)] W (DigPost (Go.Dr.nodeD l k (2 * node + 1)) W))
 (w : World) (H : HasH K a n c l lb fb w) :
 Calls Tryz.prog 218 #[.int .i64 node, .pointer (some ⟨lb, 0, none⟩), .pointer (some ⟨fb, 0, none⟩)] w (DigPost (Go.Dr.nodeD l (k + 1) node) w) := by
 have H' := Lib.hid H
 have ih1 := Lib.hid i1; have ih2 := Lib.hid i2
 clear H i1 i2
 obtain ⟨tb, htb⟩ : ∃ tb, Hid (w.heap.size = tb) := ⟨_, rfl⟩
 have hlt : decide ((512 : Int) ≤ (node : Int)) = false := by simp; omega
 obtain ⟨m1, hm1⟩ : ∃ m : Int, Hid (((2 * node : Nat) : Int) = m) := ⟨_, rfl⟩
 obtain ⟨m2, hm2⟩ : ∃ m : Int, Hid (((2 * node + 1 : Nat) : Int) = m) := ⟨_, rfl⟩
 have hw1 : IntKind.i64.wrap (2 * (node : Int)) = m1 := by rw [IntWalk.i64_in _ (by omega), ← hm1.out]; omega
 have hw2 : IntKind.i64.wrap (m1 + 1) = m2 := by rw [IntWalk.i64_in _ (by rw [← hm1.out]; omega), ← hm1.out, ← hm2.out]; omega
 rw [hm1.out] at ih1
 rw [hm2.out] at ih2
 have h1l : Hid ((Go.Dr.nodeD l k (2 * node)).length = 32) := Go.Dr.nodeD_length l k _
 have h2l : Hid ((Go.Dr.nodeD l k (2 * node + 1)).length = 32) := Go.Dr.nodeD_length l k _
 have h1u : Hid (∀ u ∈ Go.Dr.nodeD l k (2 * node), u < 256) := Go.Dr.nodeD_lt l k _
 have h2u : Hid (∀ u ∈ Go.Dr.nodeD l k (2 * node + 1), u < 256) := Go.Dr.nodeD_lt l k _
 obtain ⟨D, hfin⟩ : ∃ D, Hid (Go.Dr.pairD (Go.Dr.nodeD l k (2 * node)) (Go.Dr.nodeD l k (2 * node + 1)) = D) := ⟨_, rfl⟩
 have hDl : Hid (D.length = 32) := by show _ = _; rw [← hfin.out]; exact Sha.tagged_length _ _
 have hnd : Hid (Go.Dr.nodeD l (k + 1) node = D) := by show _ = _; rw [← hfin.out]; rfl
 have hfn : Hid (∀ W9, Below w.heap.size w W9 → DigPost (Go.Dr.nodeD l (k + 1) node) w (.returned (.agg (bv D).toArray)) W9) := fun W9 h => by rw [hnd.out]; exact ⟨rfl, h⟩
 generalize Go.Dr.nodeD l k (2 * node) = D1 at *
 generalize Go.Dr.nodeD l k (2 * node + 1) = D2 at *
 go_enter Tryz.func218, Tryz.ntmps218
 go_upto_region 1 with fail
 rw [htb.out]
 generalize hW : World.alloc _ _ = W
 have hb : Hid (Below w.heap.size w W) := by rw [← hW]; exact (Below.refl _ w).alloc (Nat.le_refl _) _
 have hD : Hid (Blk W tb 43 (bv (List.replicate 32 0))) := by rw [← hW, ← htb.out]; exact zero_dig w
 clear hW
 have hM : HasW K a n c l lb fb w tb W := ⟨⟨_, by simp, hD.out⟩, hb.out, H'.out.below hb.out⟩
 have hl0 := H'.out.llt
 have hf0 := H'.out.flt
 have hg0 : ∀ ad, 0 < n → a = some ad → ad.block < w.heap.size := fun ad hn e => by
  obtain ⟨b, off, e2, hlt, _⟩ := RS.block_lt H'.out.gs hn
  rw [e] at e2
  cases e2
  exact hlt
 have htb' := htb.out
 clear hD hb
 go_upto_region 4 with fail
 refine wp_region_held_drew (S := fun wz => HasW K a n c l lb fb w tb wz) (by kernel_rfl) (hM.drew) (fun hHeld => ?_)
 generalize W.drew = W0 at *
 refine tG 0 (v := ?_) rfl (Or.inl ⟨by rfl, ?_⟩) hHeld ?_
 rotate_left
 · intro wz hSw
   have q0 : wz.cell? ⟨fb, 0, none⟩ = some (.func (.func 218) #[] #[.pointer (some ⟨lb, 0, none⟩), .pointer (some ⟨fb, 0, none⟩)]) := hSw.2.2.fc
   go_simp
   all_goals (with_reducible rfl)
 try simp only [Act.put, sA, s0, s1]
 refine tQ 1 rfl hHeld ?_
 refine tQ 2 rfl hHeld ?_
 refine tG 4 (v := ?_) rfl (Or.inl ⟨by rfl, ?_⟩) hHeld ?_
 rotate_left
 · intro wz hSw
   have q0 : wz.cell? ⟨fb, 0, none⟩ = some (.func (.func 218) #[] #[.pointer (some ⟨lb, 0, none⟩), .pointer (some ⟨fb, 0, none⟩)]) := hSw.2.2.fc
   go_simp
   all_goals (with_reducible rfl)
 try simp only [Act.put, sA, s0, s1]
 refine tQ 5 rfl hHeld ?_
 refine tQ 6 rfl hHeld ?_
 refine tQ 7 rfl hHeld ?_
 refine rd (rs := [3]) ?_
 refine tR rfl (fun K0 hK => ?_) rn
 show Oper.wp _ _ _ _ K0 _
 go_simp
 go_at_call 218
 refine (ih1.out W0 hHeld.2.2).mono ?_
 rintro e W1 ⟨rfl, hst⟩
 refine hK.out _ _ (hHeld.next hst) (fun hHeld2 => ?_)
 clear hK K0
 try simp only [Act.put, sA, s0, s1]
 have hHeld0 := hHeld
 clear hHeld
 have hHeld := hHeld2
 clear hHeld2
 refine rd (rs := [8]) ?_
 refine tR rfl (fun K0 hK => ?_) rn
 show Oper.wp _ _ _ _ K0 _
 go_simp
 go_at_call 218
 refine (ih2.out W1 hHeld.2.2).mono ?_
 rintro e W2 ⟨rfl, hst⟩
 refine hK.out _ _ (hHeld.next hst) (fun hHeld2 => ?_)
 clear hK K0
 try simp only [Act.put, sA, s0, s1]
 have hHeld0 := hHeld
 clear hHeld
 have hHeld := hHeld2
 clear hHeld2
 refine rd (rs := [9]) ?_
 refine tR rfl (fun K0 hK => ?_) rn
 show Oper.wp _ _ _ _ K0 _
 go_simp
 go_at_call 220
 refine (pair_any D1 D2 h1l.out h2l.out h1u.out h2u.out W2 hHeld.2.2.tabs).mono ?_
 rintro e W3 ⟨rfl, hst⟩
 rw [hfin.out]
 refine hK.out _ _ (hHeld.next hst) (fun hHeld2 => ?_)
 clear hK K0
 try simp only [Act.put, sA, s0, s1]
 have hHeld0 := hHeld
 clear hHeld
 have hHeld := hHeld2
 clear hHeld2
 refine rd (rs := [10]) ?_
 refine tR rfl (fun K0 hK => ?_) rn
 obtain ⟨z, hz, hD4⟩ := hHeld.1
 obtain ⟨W9, hP, hpost⟩ := ret_dig (D := D) hD4 hz hDl.out hHeld.2.1 (Nat.le_of_eq htb.out)
 refine wp_store_mid 43 _ _ rfl tb 0 (bv D).toArray (by rfl) (by rfl) hP.there hP.info (by simpa using hP.one) ?_
 generalize hWq : World.setCells _ _ _ _ = Wa
 obtain rfl : W9 = Wa := by rw [← hWq]; exact hP.eq
 clear hWq
 refine hK.out _ _ ⟨⟨D, hDl.out, hP.blk⟩, hpost.2, hHeld.2.2.grown hP.grown (by omega) (by omega) (fun ad hn e => by have := hg0 ad hn e; omega) (H'.out.tabs.below hpost.2)⟩ (fun _ => ?_)
 clear hK K0
 try simp only [Act.put]
 refine wpAnyH_done (by kernel_rfl) ?_ _
 go_wp2_with fail
 exact bodyPost_ret (results_cell_row rfl _ _ tb 43 (bv D).toArray (0, 0) _ rfl hP.blk Tryz.underlying43 rfl hP.info) rfl (hfn.out _ hpost.2)

theorem at_any (K : Nat → Prop) (a : Option Addr) (n c : Nat) (l : List Lst) (lb fb : Nat) : ∀ (k node : Nat), 512 ≤ node * 2 ^ k → (node + 1) * 2 ^ k ≤ 1024 → ∀ (w : World), HasH K a n c l lb fb w →
 Calls Tryz.prog 218 #[.int .i64 node, .pointer (some ⟨lb, 0, none⟩), .pointer (some ⟨fb, 0, none⟩)] w (DigPost (Go.Dr.nodeD l k node) w)
 | 0, node, h1, h2, w, H => at0_any K a n c l lb fb node (by simpa using h1) (by rw [Nat.pow_zero, Nat.mul_one] at h2; omega) w H
 | k + 1, node, h1, h2, w, H => by
  rw [Nat.pow_succ] at h1 h2
  have hp : 0 < 2 ^ k := Nat.two_pow_pos k
  have e1 : 2 * node * 2 ^ k = node * (2 ^ k * 2) := by rw [Nat.mul_comm (2 ^ k), ← Nat.mul_assoc, Nat.mul_comm 2 node]
  have e2 : (2 * node + 1 + 1) * 2 ^ k = (node + 1) * (2 ^ k * 2) := by rw [Nat.mul_comm (2 ^ k), ← Nat.mul_assoc]; congr 1; omega
  have e3 : (2 * node + 1) * 2 ^ k = node * (2 ^ k * 2) + 2 ^ k := by rw [Nat.add_mul, e1, Nat.one_mul]
  have e4 : (2 * node + 1 + 1) * 2 ^ k = (2 * node + 1) * 2 ^ k + 2 ^ k := by rw [Nat.add_mul (2 * node + 1), Nat.one_mul]
  refine at_step K a n c l lb fb k node ?_ ?_ (fun W hW => at_any K a n c l lb fb k (2 * node) (by omega) (by omega) W hW) (fun W hW => at_any K a n c l lb fb k (2 * node + 1) (by omega) (by omega) W hW) w H
  · have : (node + 1) * 2 ≤ 1024 := Nat.le_trans (by rw [Nat.mul_comm (2 ^ k), ← Nat.mul_assoc]; exact Nat.le_mul_of_pos_right _ hp) h2
    omega
  · rcases Nat.eq_zero_or_pos node with h | h
    · subst h; omega
    · exact h
end Go.Proofs.YtlpgjdlkjahdgaaGreatDoor
