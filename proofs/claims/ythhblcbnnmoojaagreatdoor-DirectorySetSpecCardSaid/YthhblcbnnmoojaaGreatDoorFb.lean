/- the reference 35: ID, Signed -/
import Derived.Test.YthhblcbnnmoojaaGreatDoorFd
import Derived.Test.YthhblcbnnmoojaaGreatDoorDiC
import Derived.OrdersHeld
namespace Go.Proofs.YthhblcbnnmoojaaGreatDoor
open Go.RowKit Go.Mem
open Go.Dr (Lst Rt)

set_option maxRecDepth 20000 in
set_option maxHeartbeats 4000000 in
theorem r5verify_b (b : Int) (hbase : ∀ (S : Int) (W : World), Calls Tryz.prog 97 #[.int .i64 S] W (RetQQ (Grp.exp b S) W)) (pub R S : Int) (a : Option Addr) (n c : Nat) (l : List Nat) (w : World) (H : BW w a n c l) (hn : n ≤ 140737488354000) :
    Calls Tryz.prog 50 #[.int .i64 pub, .slice a n c, .agg #[.int .i64 R, .int .i64 S]] w (RetBo (verB b pub l R S) w) := by
  have H' := Lib.hid H
  have hbase' := Lib.hid hbase
  clear H hbase
  obtain ⟨tb, htb⟩ : ∃ tb, Hid (w.heap.size = tb) := ⟨_, rfl⟩
  obtain ⟨cp, hcp⟩ : ∃ cp, Hid (Grp.chk pub = cp) := ⟨_, rfl⟩
  obtain ⟨cr, hcr⟩ : ∃ cr, Hid (Grp.chk R = cr) := ⟨_, rfl⟩
  obtain ⟨os, hos⟩ : ∃ os, Hid ((!Fld.out S) = os) := ⟨_, rfl⟩
  have hP : Hid (∀ W, Calls Tryz.prog 95 #[.int .i64 pub] W (RetQ (.int .i64 cp) W)) := fun W => by rw [← hcp.out]; exact r4check_any pub W
  have hR : Hid (∀ W, Calls Tryz.prog 95 #[.int .i64 R] W (RetQ (.int .i64 cr) W)) := fun W => by rw [← hcr.out]; exact r4check_any R W
  have hS : Hid (∀ W, Calls Tryz.prog 96 #[.int .i64 S] W (fun e w' => e = .returned (.bool os) ∧ w' = W)) := fun W => by rw [← hos.out]; exact r3scalar_any S W
  have hfo : Hid ((Fld.chk S = 0) ↔ os = true) := by
    show _ ↔ _; rw [← hos.out]; cases h : Fld.out S with
    | true => simp [Fld.chk, h]
    | false => simp [Fld.chk, h]
  by_cases h1 : cp = 0
  · have e1 : (cp != 0) = false := by simp [h1]
    by_cases h2 : cr = 0
    · have e2 : (cr != 0) = false := by simp [h2]
      cases os with
      | false =>
        have hV : Hid (verB b pub l R S = false) := by show _ = _; unfold verB; rw [if_neg (fun h => by have := hfo.out.1 h.2.2; cases this)]
        clear h1 h2 hcp hcr hos hfo
        go_enter Tryz.func50, Tryz.ntmps50
        go_wp2_with fail
        rw [htb.out]
        generalize hW0 : World.alloc w _ = W0
        have hB : Hid (Blk W0 tb 25 [.int .i64 R, .int .i64 S]) := by rw [← hW0, ← htb.out]; exact Blk.new w _ _
        have hb : Hid (Below w.heap.size w W0) := by rw [← hW0]; exact (Below.refl _ w).alloc (Nat.le_refl _) _
        clear hW0
        refine (hP.out _).mono ?_
        rintro e w1 ⟨rfl, rfl⟩
        have y0 := hB.out.at_ (i := 0) (x := .int .i64 R) rfl
        have y1 := hB.out.at_ (i := 1) (x := .int .i64 S) rfl
        go_wp2_with fail
        refine (hR.out _).mono ?_
        rintro e w2 ⟨rfl, rfl⟩
        go_wp2_with fail
        refine (hS.out _).mono ?_
        rintro e w3 ⟨rfl, rfl⟩
        go_wp2_with fail
        go_ret
        exact ⟨by rw [hV.out]; rfl, hb.out⟩
      | true =>
        have hfs := hfo.out.2 rfl
        obtain ⟨⟨q1, q2⟩, hq⟩ : ∃ q, Hid (Grp.exp b S = q) := ⟨_, rfl⟩
        obtain ⟨hh, hhh⟩ : ∃ hh, Hid (signH l R pub = hh) := ⟨_, rfl⟩
        obtain ⟨⟨x1, x2⟩, hx⟩ : ∃ q, Hid (Grp.exp pub hh = q) := ⟨_, rfl⟩
        obtain ⟨⟨m1, m2⟩, hm⟩ : ∃ q, Hid (Grp.mul R x1 = q) := ⟨_, rfl⟩
        have hV : Hid (verB b pub l R S = decide (q1 = m1)) := by
          show _ = _; unfold verB pubB; rw [if_pos ⟨by rw [hcp.out, h1], by rw [hcr.out, h2], hfs⟩, hq.out, hhh.out, hx.out, hm.out]
        have hQ : Hid (∀ W, Calls Tryz.prog 97 #[.int .i64 S] W (RetQQ (q1, q2) W)) := fun W => by rw [← hq.out]; exact hbase'.out S W
        have hE : Hid (∀ W, Calls Tryz.prog 98 #[.int .i64 pub, .int .i64 hh] W (RetQQ (x1, x2) W)) := fun W => by rw [← hx.out]; exact r4exp_any pub hh W
        have hM : Hid (∀ W, Calls Tryz.prog 100 #[.int .i64 R, .int .i64 x1] W (RetQQ (m1, m2) W)) := fun W => by rw [← hm.out]; exact r4mul_any R x1 W
        have hC : Hid (∀ W, BW W a n c l → Calls Tryz.prog 99 #[.int .i64 pub, .int .i64 R, .slice a n c] W (fun e w' => e = .returned (.int .i64 hh) ∧ Below W.heap.size W w')) := fun W h => by rw [← hhh.out]; exact r5chal_any pub R a n c l W h hn
        clear h1 h2 hcp hcr hos hfo hfs hq hx hm hhh
        go_enter Tryz.func50, Tryz.ntmps50
        go_wp2_with fail
        rw [htb.out]
        generalize hW0 : World.alloc w _ = W0
        have hB : Hid (Blk W0 tb 25 [.int .i64 R, .int .i64 S]) := by rw [← hW0, ← htb.out]; exact Blk.new w _ _
        have hb : Hid (Below w.heap.size w W0) := by rw [← hW0]; exact (Below.refl _ w).alloc (Nat.le_refl _) _
        clear hW0
        refine (hP.out _).mono ?_
        rintro e w1 ⟨rfl, rfl⟩
        have y0 := hB.out.at_ (i := 0) (x := .int .i64 R) rfl
        have y1 := hB.out.at_ (i := 1) (x := .int .i64 S) rfl
        go_wp2_with fail
        refine (hR.out _).mono ?_
        rintro e w2 ⟨rfl, rfl⟩
        go_wp2_with fail
        refine (hS.out _).mono ?_
        rintro e w3 ⟨rfl, rfl⟩
        go_wp2_with fail
        refine (hQ.out _).mono ?_
        rintro e w4 ⟨rfl, rfl⟩
        go_wp2_with fail
        refine (hC.out _ (H'.out.below hb.out)).mono ?_
        rintro e w5 ⟨rfl, hb5⟩
        have hb6 := Lib.hid (hb.out.trans (hb5.mono hb.out.size))
        have y2 := (hB.out.below hb5 hB.out.lt).at_ (i := 0) (x := .int .i64 R) rfl
        clear y0 y1 hb5
        go_wp2_with fail
        refine (hE.out _).mono ?_
        rintro e w6 ⟨rfl, rfl⟩
        go_wp2_with fail
        refine (hM.out _).mono ?_
        rintro e w7 ⟨rfl, rfl⟩
        by_cases e9 : q1 = m1
        · have e9' : (q1 == m1) = true := by simp [e9]
          have hV2 : Hid (verB b pub l R S = true) := by show _ = _; rw [hV.out]; simp [e9]
          clear e9 hV
          go_wp2_with fail
          go_ret
          exact ⟨by rw [hV2.out]; rfl, hb6.out⟩
        · have e9' : (q1 == m1) = false := by simp [e9]
          have hV2 : Hid (verB b pub l R S = false) := by show _ = _; rw [hV.out]; simp [e9]
          clear e9 hV
          go_wp2_with fail
          go_ret
          exact ⟨by rw [hV2.out]; rfl, hb6.out⟩
    · have e2 : (cr != 0) = true := by simp [h2]
      have hV : Hid (verB b pub l R S = false) := by show _ = _; unfold verB; rw [if_neg (fun h => h2 (by rw [← hcr.out]; exact h.2.1))]
      clear h1 h2 hcp hcr hos hfo
      go_enter Tryz.func50, Tryz.ntmps50
      go_wp2_with fail
      rw [htb.out]
      generalize hW0 : World.alloc w _ = W0
      have hB : Hid (Blk W0 tb 25 [.int .i64 R, .int .i64 S]) := by rw [← hW0, ← htb.out]; exact Blk.new w _ _
      have hb : Hid (Below w.heap.size w W0) := by rw [← hW0]; exact (Below.refl _ w).alloc (Nat.le_refl _) _
      clear hW0
      refine (hP.out _).mono ?_
      rintro e w1 ⟨rfl, rfl⟩
      have y0 := hB.out.at_ (i := 0) (x := .int .i64 R) rfl
      go_wp2_with fail
      refine (hR.out _).mono ?_
      rintro e w2 ⟨rfl, rfl⟩
      go_wp2_with fail
      go_ret
      exact ⟨by rw [hV.out]; rfl, hb.out⟩
  · have e1 : (cp != 0) = true := by simp [h1]
    have hV : Hid (verB b pub l R S = false) := by show _ = _; unfold verB; rw [if_neg (fun h => h1 (by rw [← hcp.out]; exact h.1))]
    clear h1 hcp hcr hos hfo
    go_enter Tryz.func50, Tryz.ntmps50
    go_wp2_with fail
    rw [htb.out]
    generalize hW0 : World.alloc w _ = W0
    have hB : Hid (Blk W0 tb 25 [.int .i64 R, .int .i64 S]) := by rw [← hW0, ← htb.out]; exact Blk.new w _ _
    have hb : Hid (Below w.heap.size w W0) := by rw [← hW0]; exact (Below.refl _ w).alloc (Nat.le_refl _) _
    clear hW0
    refine (hP.out _).mono ?_
    rintro e w1 ⟨rfl, rfl⟩
    go_wp2_with fail
    go_ret
    exact ⟨by rw [hV.out]; rfl, hb.out⟩
theorem r5verify_any (pub R S : Int) (a : Option Addr) (n c : Nat) (l : List Nat) (w : World) (H : BW w a n c l) (hn : n ≤ 140737488354000) :
    Calls Tryz.prog 50 #[.int .i64 pub, .slice a n c, .agg #[.int .i64 R, .int .i64 S]] w (RetBo (verB 4 pub l R S) w) :=
  r5verify_b 4 r4base_any pub R S a n c l w H hn

theorem slice_atD (W : World) (db o : Nat) :
    (Instr.sliceAt 23 (.pointer (some ⟨db, o, none⟩)) none none none).run Tryz.prog W = .ok (.slice (some ⟨db, o, none⟩) 32 32) W := by kernel_rfl
/-- a digest inside a block, as bytes. -/
theorem bs_rng {W : World} {b o : Nat} {d : List Nat} (hb : b < W.heap.size) (hd : d.length = 32) (hl : ∀ u ∈ d, u < 256) (h : W.rangeAt b o (bv d)) : BS W (some ⟨b, o, none⟩) 32 32 d :=
  ⟨hd, Nat.le_refl _, by omega, fun e => (by cases e), fun ad e => by
    cases e
    exact ⟨b, o, rfl, hb, fun i x hx => h i _ (bv_get hx)⟩, hl⟩

def SdX (w : World) (tb : Nat) (x : Rt) (wz : World) : Prop := Blk wz tb 27 (rC x) ∧ tb < wz.heap.size ∧ Below w.heap.size w wz
section
variable {w wz wq : World} {tb : Nat} {x : Rt}
theorem SdX.drew (h : SdX w tb x wz) : SdX w tb x wz.drew := ⟨h.1, h.2.1, h.2.2.drew⟩
theorem SdX.next (hb : Below wz.heap.size wz wq) (h : SdX w tb x wz) : SdX w tb x wq := ⟨h.1.below hb h.2.1, Nat.lt_of_lt_of_le h.2.1 hb.size, h.2.2.trans (hb.mono h.2.2.size)⟩
end
set_option maxRecDepth 20000 in
set_option maxHeartbeats 4000000 in
theorem r35msg_any (x : Rt) (hx : OkQ x) (w : World) :
    Calls Tryz.prog 45 #[.agg (rC x).toArray] w (fun e w' => ∃ v, e = .returned v ∧ OwnY w.heap.size w' v (Go.Dr.msgR x) ∧ Below w.heap.size w w') := by
  obtain ⟨X, hX⟩ : ∃ X, Hid (X = fun e w' => ∃ v, e = Ending.returned v ∧ OwnY w.heap.size w' v (Go.Dr.msgR x) ∧ Below w.heap.size w w') := ⟨_, rfl⟩
  rw [← hX.out]
  have hx' := Lib.hid hx
  clear hx
  obtain ⟨tb, htb⟩ : ∃ tb, Hid (w.heap.size = tb) := ⟨_, rfl⟩
  go_enter Tryz.func45, Tryz.ntmps45
  go_upto_region 1 with fail
  rw [htb.out]
  generalize hW : World.alloc _ _ = W
  have hM : SdX w tb x W := by
    rw [← hW, ← htb.out]
    exact ⟨Blk.new w _ (rC x), by simp, (Below.refl _ w).alloc (Nat.le_refl _) _⟩
  clear hW
  refine wp_region_held_drew (S := fun wz => SdX w tb x wz) (by kernel_rfl) (hM.drew) (fun hHeld => ?_)
  generalize W.drew = W0 at *
  refine wpAnyH_take (i := 0) (oi := { dst := some 4, op := Op.fieldAddr 27 (Operand.tmp 1) 0, type := 0, pos := "ref.go:124", after := #[], guard := none }) (v := ?_) rfl (by kernel_rfl) (by kernel_rfl) (by kernel_rfl) (fun _ _ _ h => h) (Or.inl ⟨by rfl, ?_⟩) hHeld ?_
  rotate_left
  · intro wz hSw
    go_simp
    all_goals (with_reducible rfl)
  try simp only [Act.put, List.setIfInBounds_toArray, List.set_cons_zero, List.set_cons_succ]
  refine wpAnyH_take (i := 1) (oi := { dst := some 5, op := Op.load 3 (Operand.tmp 4), type := 3, pos := "ref.go:124", after := #[{ on := 0, ground := Ground.data }], guard := none }) (v := ?_) rfl (by kernel_rfl) (by kernel_rfl) (by kernel_rfl) (fun _ _ _ h => h) (Or.inl ⟨by rfl, ?_⟩) hHeld ?_
  rotate_left
  · intro wz hSw
    have q0 := hSw.1.at_ (i := 0) (x := .int .i64 x.no) rfl
    go_simp
    all_goals (with_reducible rfl)
  try simp only [Act.put, List.setIfInBounds_toArray, List.set_cons_zero, List.set_cons_succ]
  refine wpAnyH_take (i := 3) (oi := { dst := some 7, op := Op.fieldAddr 27 (Operand.tmp 1) 1, type := 0, pos := "ref.go:124", after := #[], guard := none }) (v := ?_) rfl (by kernel_rfl) (by kernel_rfl) (by kernel_rfl) (fun _ _ _ h => h) (Or.inl ⟨by rfl, ?_⟩) hHeld ?_
  rotate_left
  · intro wz hSw
    go_simp
    all_goals (with_reducible rfl)
  try simp only [Act.put, List.setIfInBounds_toArray, List.set_cons_zero, List.set_cons_succ]
  refine wpAnyH_take (i := 4) (oi := { dst := some 8, op := Op.slice 23 (Operand.tmp 7) none none none, type := 74, pos := "ref.go:124", after := #[{ on := 3, ground := Ground.data }], guard := none }) (v := ?_) rfl (by kernel_rfl) (by kernel_rfl) (by kernel_rfl) (fun _ _ _ h => h) (Or.inl ⟨by rfl, ?_⟩) hHeld ?_
  rotate_left
  · intro wz hSw
    go_simp
    all_goals (with_reducible rfl)
  try simp only [Act.put, List.setIfInBounds_toArray, List.set_cons_zero, List.set_cons_succ]
  refine wpAnyH_ready (rs := [2]) (by kernel_rfl) (by simp) ?_
  refine AllReadyH.cons (o := { dst := some 6, op := Op.call { callee := Callee.value (Operand.func 46), args := #[Operand.tmp 5], argTypes := #[3] }, type := 74, pos := "ref.go:124", after := #[{ on := 1, ground := Ground.data }], guard := none }) rfl (fun K hK => ?_) AllReadyH.nil
  rw [if_pos (by rfl)]
  show Oper.wp _ _ _ _ K _
  go_simp
  go_at_call 46
  have h0 := hHeld
  refine (r5bytes_any x.no W0).mono ?_
  rintro e W1 ⟨v1, rfl, ho1, hb1⟩
  refine hK.out _ _ (hHeld.next hb1) (fun hHeld2 => ?_)
  clear hHeld
  have hHeld := hHeld2
  clear hHeld2
  clear hK K
  try simp only [Act.put, List.setIfInBounds_toArray, List.set_cons_zero, List.set_cons_succ]
  refine wpAnyH_ready (rs := [5]) (by kernel_rfl) (by simp) ?_
  refine AllReadyH.cons (o := { dst := some 9, op := Op.call { callee := Callee.builtin Builtin.append, args := #[Operand.tmp 6, Operand.tmp 8], argTypes := #[74, 74] }, type := 74, pos := "ref.go:124", after := #[{ on := 2, ground := Ground.data }, { on := 4, ground := Ground.data }, { on := 2, ground := Ground.chain }], guard := none }) rfl (fun K hK => ?_) AllReadyH.nil
  rw [if_pos (by rfl)]
  obtain ⟨v2, W2, hr2, ho2, hb2⟩ := append_byL ho1 hb1.size hb1 (bw_of (bs_rng hHeld.2.1 hx'.out.dig hx'.out.digl (fun j u hu => by rw [show 1 + j = 1 + j from rfl]; exact hHeld.1.at_ (rC_dig hu)))) (by simp only [numB_length]; omega)
  refine wp_append_run rfl _ _ (by rfl) (by rfl) (hr2 _) ?_
  have hb3 : Hid (SdX w tb x W2) := SdX.next hb2 h0
  have ho3 := Lib.hid ho2
  have hb4 := Lib.hid hb2
  refine hK.out _ _ hb3.out (fun hHeld2 => ?_)
  clear hHeld ho1 hb1 hr2 ho2 hb2
  have hHeld := hHeld2
  clear hHeld2
  clear hK K
  try simp only [Act.put, List.setIfInBounds_toArray, List.set_cons_zero, List.set_cons_succ]
  refine wpAnyH_take (i := 6) (oi := { dst := some 3, op := Op.assign (Operand.tmp 9), type := 74, pos := "ref.go:124", after := #[{ on := 5, ground := Ground.data }, { on := 5, ground := Ground.chain }, { on := 0, ground := Ground.phase }, { on := 1, ground := Ground.phase }, { on := 2, ground := Ground.phase }, { on := 3, ground := Ground.phase }, { on := 4, ground := Ground.phase }, { on := 5, ground := Ground.phase }], guard := none }) (v := ?_) rfl (by kernel_rfl) (by kernel_rfl) (by kernel_rfl) (fun _ _ _ h => h) (Or.inl ⟨by rfl, ?_⟩) hHeld ?_
  rotate_left
  · intro wz hSw
    go_simp
    all_goals (with_reducible rfl)
  try simp only [Act.put, List.setIfInBounds_toArray, List.set_cons_zero, List.set_cons_succ]
  refine wpAnyH_done (by kernel_rfl) ?_ _
  have hrg : W2.rangeAt tb 33 (bv x.prev) := fun j u hu => hHeld.1.at_ (rC_prev hx'.out.dig hu)
  obtain ⟨v5, W5, hr5', ho5', hb5'⟩ := append_byL ho3.out hb4.out.size hb4.out (bw_of (bs_rng hHeld.2.1 hx'.out.prev hx'.out.prevl hrg)) (by rw [List.length_append]; simp only [numB_length, hx'.out.dig]; omega)
  have hr5 := Lib.hid hr5'
  have hend : Hid (X (.returned v5) W5) := by
    show X _ _
    rw [hX.out]
    exact ⟨v5, rfl, ho5'.imp h0.2.2.size, h0.2.2.trans (hb5'.mono h0.2.2.size)⟩
  clear hr5' ho5' hb5' ho3 hb4 hHeld hrg h0
  go_wp2_with (first
    | (at_builtin; refine Lib.wpList_append_run _ rfl _ _ _ _ rfl _ _ rfl rfl _ _ (hr5.out _) ?_))
  exact hend.out
end Go.Proofs.YthhblcbnnmoojaaGreatDoor
namespace Go.Proofs.YthhblcbnnmoojaaGreatDoor
open Go.RowKit Go.Mem
open Go.Dr (Lst Rt)

def IdX (w : World) (tb : Nat) (x : Rt) (wz : World) : Prop := SdX w tb x wz ∧ Blk wz (tb + 1) 23 (bv (List.replicate 32 0)) ∧ w.heap.size ≤ tb
section
variable {w wz wq : World} {tb : Nat} {x : Rt}
theorem IdX.drew (h : IdX w tb x wz) : IdX w tb x wz.drew := ⟨h.1.drew, h.2.1.drewN 1, h.2.2⟩
theorem IdX.next (hb : Below wz.heap.size wz wq) (h : IdX w tb x wz) : IdX w tb x wq := ⟨h.1.next hb, h.2.1.below hb h.2.1.lt, h.2.2⟩
end
set_option maxRecDepth 20000 in
set_option maxHeartbeats 4000000 in
theorem r35id_any (x : Rt) (hx : OkQ x) (w : World) :
    Calls Tryz.prog 11 #[.agg (rC x).toArray] w (DigPost (Go.Dr.idR x) w) := by
  obtain ⟨X, hX⟩ : ∃ X, Hid (X = DigPost (Go.Dr.idR x) w) := ⟨_, rfl⟩
  rw [← hX.out]
  have hx' := Lib.hid hx
  have z0 : (Tryz.prog.info? 27).map (·.size) = some (rC x).length := by rw [rC_length hx]; exact sizeR
  have hml : Hid ((Go.Dr.msgR x).length = 72) := by show _ = _; unfold Go.Dr.msgR Go.Dr.num8; simp [hx.dig, hx.prev, Sha.be_length]
  have hms := Lib.hid (fun W => r35msg_any x hx W)
  clear hx
  obtain ⟨tb, htb⟩ : ∃ tb, Hid (w.heap.size = tb) := ⟨_, rfl⟩
  go_enter Tryz.func11, Tryz.ntmps11
  go_upto_region 1 with fail
  rw [htb.out]
  generalize hW : World.alloc _ _ = W
  have hM : IdX w tb x W := by
    rw [← hW, ← htb.out]
    refine ⟨⟨(Blk.new w _ (rC x)).alloc _, by simp; omega, ((Below.refl _ w).alloc (Nat.le_refl _) _).alloc (by simp) _⟩, ?_, Nat.le_refl _⟩
    have := zero_dig (w.alloc (.cells (rC x).toArray 27))
    rw [World.size_alloc] at this
    exact this
  clear hW
  refine wp_region_held_drew (S := fun wz => IdX w tb x wz) (by kernel_rfl) (hM.drew) (fun hHeld => ?_)
  generalize W.drew = W0 at *
  refine wpAnyH_take (i := 0) (oi := { dst := some 4, op := Op.load 27 (Operand.tmp 1), type := 27, pos := "ref.go:182", after := #[], guard := none }) rfl (by kernel_rfl) (by kernel_rfl) (by kernel_rfl) (fun _ _ _ h => h) (yieldsIf_load_mid (by rfl) _ _ rfl tb 0 rfl (rC x) _ (fun wz h => h.1.1.range) Tryz.underlying27 rfl (z0)) hHeld ?_
  try simp only [Act.put, List.setIfInBounds_toArray, List.set_cons_zero, List.set_cons_succ]
  refine wpAnyH_take (i := 2) (oi := { dst := some 6, op := Op.fieldAddr 27 (Operand.tmp 1) 3, type := 0, pos := "ref.go:182", after := #[], guard := none }) (v := ?_) rfl (by kernel_rfl) (by kernel_rfl) (by kernel_rfl) (fun _ _ _ h => h) (Or.inl ⟨by rfl, ?_⟩) hHeld ?_
  rotate_left
  · intro wz hSw
    go_simp
    all_goals (with_reducible rfl)
  try simp only [Act.put, List.setIfInBounds_toArray, List.set_cons_zero, List.set_cons_succ]
  refine wpAnyH_take (i := 3) (oi := { dst := some 7, op := Op.fieldAddr 25 (Operand.tmp 6) 0, type := 0, pos := "ref.go:182", after := #[{ on := 2, ground := Ground.data }], guard := none }) (v := ?_) rfl (by kernel_rfl) (by kernel_rfl) (by kernel_rfl) (fun _ _ _ h => h) (Or.inl ⟨by rfl, ?_⟩) hHeld ?_
  rotate_left
  · intro wz hSw
    go_simp
    all_goals (with_reducible rfl)
  try simp only [Act.put, List.setIfInBounds_toArray, List.set_cons_zero, List.set_cons_succ]
  refine wpAnyH_take (i := 4) (oi := { dst := some 8, op := Op.load 3 (Operand.tmp 7), type := 3, pos := "ref.go:182", after := #[{ on := 3, ground := Ground.data }], guard := none }) (v := ?_) rfl (by kernel_rfl) (by kernel_rfl) (by kernel_rfl) (fun _ _ _ h => h) (Or.inl ⟨by rfl, ?_⟩) hHeld ?_
  rotate_left
  · intro wz hSw
    have q0 := hSw.1.1.at_ (rC_r hx'.out)
    go_simp
    all_goals (with_reducible rfl)
  try simp only [Act.put, List.setIfInBounds_toArray, List.set_cons_zero, List.set_cons_succ]
  refine wpAnyH_ready (rs := [1]) (by kernel_rfl) (by simp) ?_
  refine AllReadyH.cons (o := { dst := some 5, op := Op.call { callee := Callee.value (Operand.func 45), args := #[Operand.tmp 4], argTypes := #[27] }, type := 74, pos := "ref.go:182", after := #[{ on := 0, ground := Ground.data }], guard := none }) rfl (fun K hK => ?_) AllReadyH.nil
  rw [if_pos (by rfl)]
  show Oper.wp _ _ _ _ K _
  go_simp
  go_at_call 45
  have h0 := hHeld
  refine (hms.out W0).mono ?_
  rintro e W1 ⟨v1, rfl, ho1, hb1⟩
  refine hK.out _ _ (hHeld.next hb1) (fun hHeld2 => ?_)
  clear hHeld
  have hHeld := hHeld2
  clear hHeld2
  clear hK K
  try simp only [Act.put, List.setIfInBounds_toArray, List.set_cons_zero, List.set_cons_succ]
  refine wpAnyH_ready (rs := [5]) (by kernel_rfl) (by simp) ?_
  refine AllReadyH.cons (o := { dst := some 9, op := Op.call { callee := Callee.value (Operand.func 46), args := #[Operand.tmp 8], argTypes := #[3] }, type := 74, pos := "ref.go:182", after := #[{ on := 4, ground := Ground.data }, { on := 1, ground := Ground.chain }], guard := none }) rfl (fun K hK => ?_) AllReadyH.nil
  rw [if_pos (by rfl)]
  show Oper.wp _ _ _ _ K _
  go_simp
  go_at_call 46
  refine (r5bytes_any x.r W1).mono ?_
  rintro e W2 ⟨v2, rfl, ho2, hb2⟩
  refine hK.out _ _ (hHeld.next hb2) (fun hHeld2 => ?_)
  clear hHeld
  have hHeld := hHeld2
  clear hHeld2
  clear hK K
  try simp only [Act.put, List.setIfInBounds_toArray, List.set_cons_zero, List.set_cons_succ]
  refine wpAnyH_ready (rs := [6]) (by kernel_rfl) (by simp) ?_
  refine AllReadyH.cons (o := { dst := some 10, op := Op.call { callee := Callee.builtin Builtin.append, args := #[Operand.tmp 5, Operand.tmp 9], argTypes := #[74, 74] }, type := 74, pos := "ref.go:182", after := #[{ on := 1, ground := Ground.data }, { on := 5, ground := Ground.data }, { on := 5, ground := Ground.chain }], guard := none }) rfl (fun K hK => ?_) AllReadyH.nil
  rw [if_pos (by rfl)]
  obtain ⟨v3, W3, hr3, ho3', hb3'⟩ := append_own (ho1.below hb2) (Nat.le_trans hb1.size hb2.size) (hb1.trans (hb2.mono hb1.size)) ho2 (by rw [hml.out]; simp only [numB_length]; omega)
  refine wp_append_run rfl _ _ (by rfl) (by rfl) (hr3 _) ?_
  have ho3 := Lib.hid ho3'; have hb3 := Lib.hid hb3'
  refine hK.out _ _ (IdX.next hb3' h0) (fun hHeld2 => ?_)
  clear ho1 hb1 ho2 hb2 hr3 ho3' hb3'
  clear hHeld
  have hHeld := hHeld2
  clear hHeld2
  clear hK K
  try simp only [Act.put, List.setIfInBounds_toArray, List.set_cons_zero, List.set_cons_succ]
  refine wpAnyH_take (i := 7) (oi := { dst := some 3, op := Op.assign (Operand.tmp 10), type := 74, pos := "ref.go:182", after := #[{ on := 6, ground := Ground.data }, { on := 6, ground := Ground.chain }, { on := 0, ground := Ground.phase }, { on := 1, ground := Ground.phase }, { on := 2, ground := Ground.phase }, { on := 3, ground := Ground.phase }, { on := 4, ground := Ground.phase }, { on := 5, ground := Ground.phase }, { on := 6, ground := Ground.phase }], guard := none }) (v := ?_) rfl (by kernel_rfl) (by kernel_rfl) (by kernel_rfl) (fun _ _ _ h => h) (Or.inl ⟨by rfl, ?_⟩) hHeld ?_
  rotate_left
  · intro wz hSw
    go_simp
    all_goals (with_reducible rfl)
  try simp only [Act.put, List.setIfInBounds_toArray, List.set_cons_zero, List.set_cons_succ]
  refine wpAnyH_done (by kernel_rfl) ?_ _
  have y1 := hHeld.1.1.at_ (rC_s hx'.out)
  have hH := Lib.hid hHeld
  clear hHeld
  go_wp2_with fail
  refine (r5bytes_any x.s W3).mono ?_
  rintro e W4 ⟨v4, rfl, ho4, hb4⟩
  obtain ⟨v5, W5, hr5', ho5', hb5'⟩ := append_own (ho3.out.below hb4) (Nat.le_trans hb3.out.size hb4.size) (hb3.out.trans (hb4.mono hb3.out.size)) ho4 (by rw [List.length_append, hml.out]; simp only [numB_length]; omega)
  have hr5 := Lib.hid hr5'
  obtain ⟨a5, c5, rfl, hB5'⟩ := BS.own ho5'.1 ho5'.2
  have hB5 := Lib.hid hB5'
  have hH5 : Hid (IdX w tb x W5) := IdX.next hb5' h0
  clear hr5' ho5' hb5' ho3 hb3 ho4 hb4 hB5' y1
  have hll : Hid ((Go.Dr.msgR x ++ numB x.r ++ numB x.s).length = 88) := by show _ = _; simp only [List.length_append, numB_length, hml.out]
  rw [hll.out] at hr5 hB5
  go_wp2_with (first
    | (at_builtin; refine Lib.wpList_append_run _ rfl _ _ _ _ rfl _ _ rfl rfl _ _ (hr5.out _) ?_))
  refine (r2tagged_any ⟨#[114, 111, 111, 116]⟩ (by decide) _ _ _ _ W5 (bw_of hB5.out) (by omega)).mono ?_
  rintro e W6 ⟨rfl, hb6⟩
  have hid : Sha.tagged (octets ⟨#[114, 111, 111, 116]⟩) (Go.Dr.msgR x ++ numB x.r ++ numB x.s) = Go.Dr.idR x := rfl
  rw [hid]
  have hH6 := IdX.next hb6 hH5.out
  obtain ⟨D, hDD⟩ : ∃ D, Hid (bv (Go.Dr.idR x) = D) := ⟨_, rfl⟩
  have hDl : D.length = 32 := by rw [← hDD.out, bv_length]; exact Sha.tagged_length _ _
  have hD1 : ∀ u ∈ D, u.oneCell' = true := by rw [← hDD.out]; exact bv_one _
  rw [hDD.out]
  have hP := Lib.hid (Put.mk' (ty := 23) (RES := D) hH6.2.1 (by rw [hDl]; rfl) (by rw [hDl]; exact size35) hD1)
  have hend : Hid (X (.returned (.agg D.toArray)) (W6.setCells (tb + 1) 0 D)) := by
    show X _ _
    rw [hX.out, ← hDD.out]; exact ⟨rfl, by rw [hDD.out]; exact below_grown hH6.1.2.2 hP.out.grw hH6.1.2.2.size (by have := hH6.2.2; omega)⟩
  clear hDl hD1 hid hH6 hb6 hB5 hH5 hll hH h0
  go_wp2_with (first
    | (refine wpList_store_mid (by rfl) 23 (.tmp 2) (.tmp 17) (by rfl) (tb + 1) 0 D.toArray (by rfl) (by rfl) hP.out.th hP.out.inf hP.out.one ?_))
  exact bodyPost_ret (results_cell_row rfl _ _ (tb + 1) 23 D.toArray (0, 0) _ rfl hP.out.blk Tryz.underlying23 rfl hP.out.inf) rfl hend.out

set_option maxRecDepth 20000 in
set_option maxHeartbeats 8000000 in
theorem r35signed_b (b : Int) (hver : ∀ (pub R S : Int) (a : Option Addr) (n c : Nat) (l : List Nat) (w : World), BW w a n c l → n ≤ 140737488354000 → Calls Tryz.prog 50 #[.int .i64 pub, .slice a n c, .agg #[.int .i64 R, .int .i64 S]] w (RetBo (verB b pub l R S) w)) (pub : Int) (x : Rt) (hx : OkQ x) (w : World) :
    Calls Tryz.prog 13 #[.int .i64 pub, .agg (rC x).toArray] w (RetBo (Go.Dr.signedB b pub x) w) := by
  have hx' := Lib.hid hx
  have hver' := Lib.hid hver
  clear hver
  obtain ⟨tb, htb⟩ : ∃ tb, Hid (w.heap.size = tb) := ⟨_, rfl⟩
  have z0 : (Tryz.prog.info? 27).map (·.size) = some (rC x).length := by rw [rC_length hx]; exact sizeR
  have hml : Hid ((Go.Dr.msgR x).length = 72) := by show _ = _; unfold Go.Dr.msgR Go.Dr.num8; simp [hx.dig, hx.prev, Sha.be_length]
  go_enter Tryz.func13, Tryz.ntmps13
  go_upto_region 1 with fail
  rw [htb.out]
  generalize hW : World.alloc _ _ = W
  have hM : SdX w tb x W := by
    rw [← hW, ← htb.out]
    exact ⟨Blk.new w _ (rC x), by simp, (Below.refl _ w).alloc (Nat.le_refl _) _⟩
  clear hW hx
  obtain ⟨V, hV⟩ : ∃ V, Hid (verB b pub (Go.Dr.msgR x) x.r x.s = V) := ⟨_, rfl⟩
  have hms := Lib.hid (fun W => r35msg_any x hx'.out W)
  have c0q : Hid (∀ wz, SdX w tb x wz → wz.cell? ⟨tb, 0, none⟩ = some (.int .i64 x.no)) := fun wz h => h.1.at_ (i := 0) rfl
  by_cases h1 : 1 ≤ x.no
  · have h1' : decide (1 ≤ x.no) = true := by simpa using h1
    by_cases h2 : x.no ≤ 65536
    · have h2' : decide (x.no ≤ 65536) = true := by simpa using h2
      have hv : Hid (Go.Dr.signedB b pub x = V) := by show _ = _; unfold Go.Dr.signedB; rw [decide_eq_true ⟨h1, h2⟩, hV.out]; rfl
      refine wp_region_held_drew (S := fun wz => SdX w tb x wz) (by kernel_rfl) (hM.drew) (fun hHeld => ?_)
      generalize W.drew = W0 at *
      refine wpAnyH_take (i := 0) (oi := { dst := some 5, op := Op.fieldAddr 27 (Operand.tmp 3) 0, type := 0, pos := "ref.go:188", after := #[], guard := none }) (v := ?_) rfl (by kernel_rfl) (by kernel_rfl) (by kernel_rfl) (fun _ _ _ h => h) (Or.inl ⟨by rfl, ?_⟩) hHeld ?_
      rotate_left
      · intro wz hSw
        go_simp
        all_goals (with_reducible rfl)
      try simp only [Act.put, List.setIfInBounds_toArray, List.set_cons_zero, List.set_cons_succ]
      refine wpAnyH_take (i := 1) (oi := { dst := some 6, op := Op.load 3 (Operand.tmp 5), type := 3, pos := "ref.go:188", after := #[{ on := 0, ground := Ground.data }], guard := none }) (v := ?_) rfl (by kernel_rfl) (by kernel_rfl) (by kernel_rfl) (fun _ _ _ h => h) (Or.inl ⟨by rfl, ?_⟩) hHeld ?_
      rotate_left
      · intro wz hSw
        have q0 := c0q.out wz hSw
        go_simp
        all_goals (with_reducible rfl)
      try simp only [Act.put, List.setIfInBounds_toArray, List.set_cons_zero, List.set_cons_succ]
      refine wpAnyH_take (i := 2) (oi := { dst := some 7, op := Op.binOp BinOp.geq 3 (Operand.tmp 6) (Operand.const (Value.int IntKind.i64 1)) 3, type := 4, pos := "ref.go:188", after := #[{ on := 1, ground := Ground.data }], guard := none }) (v := ?_) rfl (by kernel_rfl) (by kernel_rfl) (by kernel_rfl) (fun _ _ _ h => h) (Or.inl ⟨by rfl, ?_⟩) hHeld ?_
      rotate_left
      · intro wz hSw
        go_simp
        all_goals (with_reducible rfl)
      try simp only [Act.put, List.setIfInBounds_toArray, List.set_cons_zero, List.set_cons_succ]
      refine wpAnyH_take (i := 3) (oi := { dst := some 8, op := Op.move (Operand.tmp 7), type := 4, pos := "ref.go:188", after := #[{ on := 2, ground := Ground.data }], guard := none }) (v := ?_) rfl (by kernel_rfl) (by kernel_rfl) (by kernel_rfl) (fun _ _ _ h => h) (Or.inl ⟨by rfl, ?_⟩) hHeld ?_
      rotate_left
      · intro wz hSw
        go_simp
        all_goals (with_reducible rfl)
      try simp only [Act.put, List.setIfInBounds_toArray, List.set_cons_zero, List.set_cons_succ]
      refine wpAnyH_take (i := 4) (oi := { dst := some 9, op := Op.fieldAddr 27 (Operand.tmp 3) 0, type := 0, pos := "ref.go:188", after := #[{ on := 3, ground := Ground.guard }], guard := some (3, true) }) (v := ?_) rfl (by kernel_rfl) (by kernel_rfl) (by kernel_rfl) (fun _ _ _ h => h) (Or.inl ⟨by rfl, ?_⟩) hHeld ?_
      rotate_left
      · intro wz hSw
        go_simp
        all_goals (with_reducible rfl)
      try simp only [Act.put, List.setIfInBounds_toArray, List.set_cons_zero, List.set_cons_succ]
      refine wpAnyH_take (i := 5) (oi := { dst := some 10, op := Op.load 3 (Operand.tmp 9), type := 3, pos := "ref.go:188", after := #[{ on := 4, ground := Ground.data }, { on := 3, ground := Ground.guard }], guard := some (3, true) }) (v := ?_) rfl (by kernel_rfl) (by kernel_rfl) (by kernel_rfl) (fun _ _ _ h => h) (Or.inl ⟨by rfl, ?_⟩) hHeld ?_
      rotate_left
      · intro wz hSw
        have q0 := c0q.out wz hSw
        go_simp
        all_goals (with_reducible rfl)
      try simp only [Act.put, List.setIfInBounds_toArray, List.set_cons_zero, List.set_cons_succ]
      refine wpAnyH_take (i := 6) (oi := { dst := some 11, op := Op.binOp BinOp.leq 3 (Operand.tmp 10) (Operand.const (Value.int IntKind.i64 65536)) 3, type := 4, pos := "ref.go:188", after := #[{ on := 5, ground := Ground.data }, { on := 3, ground := Ground.guard }], guard := some (3, true) }) (v := ?_) rfl (by kernel_rfl) (by kernel_rfl) (by kernel_rfl) (fun _ _ _ h => h) (Or.inl ⟨by rfl, ?_⟩) hHeld ?_
      rotate_left
      · intro wz hSw
        go_simp
        all_goals (with_reducible rfl)
      try simp only [Act.put, List.setIfInBounds_toArray, List.set_cons_zero, List.set_cons_succ]
      refine wpAnyH_take (i := 7) (oi := { dst := some 12, op := Op.pick (Operand.tmp 8) (Operand.tmp 11) (Operand.const (Value.bool false)), type := 4, pos := "ref.go:188", after := #[{ on := 3, ground := Ground.data }, { on := 6, ground := Ground.data }], guard := none }) (v := ?_) rfl (by kernel_rfl) (by kernel_rfl) (by kernel_rfl) (fun _ _ _ h => h) (Or.inl ⟨by rfl, ?_⟩) hHeld ?_
      rotate_left
      · intro wz hSw
        go_simp
        all_goals (with_reducible rfl)
      try simp only [Act.put, List.setIfInBounds_toArray, List.set_cons_zero, List.set_cons_succ]
      refine wpAnyH_take (i := 8) (oi := { dst := some 13, op := Op.move (Operand.tmp 12), type := 4, pos := "ref.go:188", after := #[{ on := 7, ground := Ground.data }, { on := 3, ground := Ground.chain }], guard := none }) (v := ?_) rfl (by kernel_rfl) (by kernel_rfl) (by kernel_rfl) (fun _ _ _ h => h) (Or.inl ⟨by rfl, ?_⟩) hHeld ?_
      rotate_left
      · intro wz hSw
        go_simp
        all_goals (with_reducible rfl)
      try simp only [Act.put, List.setIfInBounds_toArray, List.set_cons_zero, List.set_cons_succ]
      refine wpAnyH_take (i := 9) (oi := { dst := some 14, op := Op.move (Operand.tmp 0), type := 3, pos := "ref.go:188", after := #[{ on := 8, ground := Ground.guard }], guard := some (8, true) }) (v := ?_) rfl (by kernel_rfl) (by kernel_rfl) (by kernel_rfl) (fun _ _ _ h => h) (Or.inl ⟨by rfl, ?_⟩) hHeld ?_
      rotate_left
      · intro wz hSw
        go_simp
        all_goals (with_reducible rfl)
      try simp only [Act.put, List.setIfInBounds_toArray, List.set_cons_zero, List.set_cons_succ]
      refine wpAnyH_take (i := 10) (oi := { dst := some 15, op := Op.load 27 (Operand.tmp 3), type := 27, pos := "ref.go:188", after := #[{ on := 8, ground := Ground.guard }], guard := some (8, true) }) rfl (by kernel_rfl) (by kernel_rfl) (by kernel_rfl) (fun _ _ _ h => h) (yieldsIf_load_mid (by rfl) _ _ rfl tb 0 rfl (rC x) _ (fun wz h => h.1.range) Tryz.underlying27 rfl (z0)) hHeld ?_
      try simp only [Act.put, List.setIfInBounds_toArray, List.set_cons_zero, List.set_cons_succ]
      refine wpAnyH_take (i := 12) (oi := { dst := some 17, op := Op.fieldAddr 27 (Operand.tmp 3) 3, type := 0, pos := "ref.go:188", after := #[{ on := 8, ground := Ground.guard }], guard := some (8, true) }) (v := ?_) rfl (by kernel_rfl) (by kernel_rfl) (by kernel_rfl) (fun _ _ _ h => h) (Or.inl ⟨by rfl, ?_⟩) hHeld ?_
      rotate_left
      · intro wz hSw
        go_simp
        all_goals (with_reducible rfl)
      try simp only [Act.put, List.setIfInBounds_toArray, List.set_cons_zero, List.set_cons_succ]
      refine wpAnyH_take (i := 13) (oi := { dst := some 18, op := Op.load 25 (Operand.tmp 17), type := 25, pos := "ref.go:188", after := #[{ on := 12, ground := Ground.data }, { on := 8, ground := Ground.guard }], guard := some (8, true) }) (v := ?_) rfl (by kernel_rfl) (by kernel_rfl) (by kernel_rfl) (fun _ _ _ h => h) (Or.inl ⟨by rfl, ?_⟩) hHeld ?_
      rotate_left
      · intro wz hSw
        have q0 := hSw.1.at_ (rC_r hx'.out)
        have q1 := hSw.1.at_ (rC_s hx'.out)
        go_simp
        all_goals (with_reducible rfl)
      try simp only [Act.put, List.setIfInBounds_toArray, List.set_cons_zero, List.set_cons_succ]
      refine wpAnyH_ready (rs := [11]) (by kernel_rfl) (by simp) ?_
      refine AllReadyH.cons (o := { dst := some 16, op := Op.call { callee := Callee.value (Operand.func 45), args := #[Operand.tmp 15], argTypes := #[27] }, type := 74, pos := "ref.go:188", after := #[{ on := 10, ground := Ground.data }, { on := 8, ground := Ground.chain }, { on := 8, ground := Ground.guard }], guard := some (8, true) }) rfl (fun K hK => ?_) AllReadyH.nil
      rw [if_pos (by rfl)]
      show Oper.wp _ _ _ _ K _
      go_simp
      go_at_call 45
      refine (hms.out W0).mono ?_
      rintro e W1 ⟨v1, rfl, ho1, hst⟩
      refine hK.out _ _ (hHeld.next hst) (fun hHeld2 => ?_)
      clear hHeld
      have hHeld := hHeld2
      clear hHeld2
      obtain ⟨a2, c2, rfl, hS3⟩ := BS.own ho1.1 ho1.2
      rw [hml.out] at hS3 ⊢
      clear hK K
      try simp only [Act.put, List.setIfInBounds_toArray, List.set_cons_zero, List.set_cons_succ]
      refine wpAnyH_ready (rs := [14]) (by kernel_rfl) (by simp) ?_
      refine AllReadyH.cons (o := { dst := some 19, op := Op.call { callee := Callee.value (Operand.func 50), args := #[Operand.tmp 14, Operand.tmp 16, Operand.tmp 18], argTypes := #[3, 74, 25] }, type := 4, pos := "ref.go:188", after := #[{ on := 9, ground := Ground.data }, { on := 11, ground := Ground.data }, { on := 13, ground := Ground.data }, { on := 11, ground := Ground.chain }, { on := 8, ground := Ground.guard }], guard := some (8, true) }) rfl (fun K hK => ?_) AllReadyH.nil
      rw [if_pos (by rfl)]
      show Oper.wp _ _ _ _ K _
      go_simp
      go_at_call 50
      refine (hver'.out pub x.r x.s a2 72 c2 (Go.Dr.msgR x) W1 (bw_of hS3) (by omega)).mono ?_
      rintro e W4 ⟨rfl, hst2⟩
      refine hK.out _ _ (hHeld.next hst2) (fun hHeld2 => ?_)
      clear hHeld
      have hHeld := hHeld2
      clear hHeld2
      rw [hV.out]
      clear hK K
      try simp only [Act.put, List.setIfInBounds_toArray, List.set_cons_zero, List.set_cons_succ]
      refine wpAnyH_take (i := 15) (oi := { dst := some 20, op := Op.pick (Operand.tmp 13) (Operand.tmp 19) (Operand.const (Value.bool false)), type := 4, pos := "ref.go:188", after := #[{ on := 8, ground := Ground.data }, { on := 14, ground := Ground.data }], guard := none }) (v := ?_) rfl (by kernel_rfl) (by kernel_rfl) (by kernel_rfl) (fun _ _ _ h => h) (Or.inl ⟨by rfl, ?_⟩) hHeld ?_
      rotate_left
      · intro wz hSw
        go_simp
        all_goals (with_reducible rfl)
      try simp only [Act.put, List.setIfInBounds_toArray, List.set_cons_zero, List.set_cons_succ]
      refine wpAnyH_take (i := 16) (oi := { dst := some 4, op := Op.assign (Operand.tmp 20), type := 4, pos := "ref.go:188", after := #[{ on := 15, ground := Ground.data }, { on := 14, ground := Ground.chain }, { on := 0, ground := Ground.phase }, { on := 1, ground := Ground.phase }, { on := 2, ground := Ground.phase }, { on := 3, ground := Ground.phase }, { on := 4, ground := Ground.phase }, { on := 5, ground := Ground.phase }, { on := 6, ground := Ground.phase }, { on := 7, ground := Ground.phase }, { on := 8, ground := Ground.phase }, { on := 9, ground := Ground.phase }, { on := 10, ground := Ground.phase }, { on := 11, ground := Ground.phase }, { on := 12, ground := Ground.phase }, { on := 13, ground := Ground.phase }, { on := 14, ground := Ground.phase }, { on := 15, ground := Ground.phase }], guard := none }) (v := ?_) rfl (by kernel_rfl) (by kernel_rfl) (by kernel_rfl) (fun _ _ _ h => h) (Or.inl ⟨by rfl, ?_⟩) hHeld ?_
      rotate_left
      · intro wz hSw
        go_simp
        all_goals (with_reducible rfl)
      try simp only [Act.put, List.setIfInBounds_toArray, List.set_cons_zero, List.set_cons_succ]
      refine wpAnyH_done (by kernel_rfl) ?_ _
      go_wp2_with fail
      go_ret
      exact ⟨by rw [hv.out]; rfl, hHeld.2.2⟩
    · have h2' : decide (x.no ≤ 65536) = false := by simpa using h2
      have hv : Hid (Go.Dr.signedB b pub x = false) := by show _ = _; unfold Go.Dr.signedB; rw [decide_eq_false (fun h => h2 h.2)]; rfl
      refine wp_region_held_drew (S := fun wz => SdX w tb x wz) (by kernel_rfl) (hM.drew) (fun hHeld => ?_)
      generalize W.drew = W0 at *
      refine wpAnyH_take (i := 0) (oi := { dst := some 5, op := Op.fieldAddr 27 (Operand.tmp 3) 0, type := 0, pos := "ref.go:188", after := #[], guard := none }) (v := ?_) rfl (by kernel_rfl) (by kernel_rfl) (by kernel_rfl) (fun _ _ _ h => h) (Or.inl ⟨by rfl, ?_⟩) hHeld ?_
      rotate_left
      · intro wz hSw
        go_simp
        all_goals (with_reducible rfl)
      try simp only [Act.put, List.setIfInBounds_toArray, List.set_cons_zero, List.set_cons_succ]
      refine wpAnyH_take (i := 1) (oi := { dst := some 6, op := Op.load 3 (Operand.tmp 5), type := 3, pos := "ref.go:188", after := #[{ on := 0, ground := Ground.data }], guard := none }) (v := ?_) rfl (by kernel_rfl) (by kernel_rfl) (by kernel_rfl) (fun _ _ _ h => h) (Or.inl ⟨by rfl, ?_⟩) hHeld ?_
      rotate_left
      · intro wz hSw
        have q0 := c0q.out wz hSw
        go_simp
        all_goals (with_reducible rfl)
      try simp only [Act.put, List.setIfInBounds_toArray, List.set_cons_zero, List.set_cons_succ]
      refine wpAnyH_take (i := 2) (oi := { dst := some 7, op := Op.binOp BinOp.geq 3 (Operand.tmp 6) (Operand.const (Value.int IntKind.i64 1)) 3, type := 4, pos := "ref.go:188", after := #[{ on := 1, ground := Ground.data }], guard := none }) (v := ?_) rfl (by kernel_rfl) (by kernel_rfl) (by kernel_rfl) (fun _ _ _ h => h) (Or.inl ⟨by rfl, ?_⟩) hHeld ?_
      rotate_left
      · intro wz hSw
        go_simp
        all_goals (with_reducible rfl)
      try simp only [Act.put, List.setIfInBounds_toArray, List.set_cons_zero, List.set_cons_succ]
      refine wpAnyH_take (i := 3) (oi := { dst := some 8, op := Op.move (Operand.tmp 7), type := 4, pos := "ref.go:188", after := #[{ on := 2, ground := Ground.data }], guard := none }) (v := ?_) rfl (by kernel_rfl) (by kernel_rfl) (by kernel_rfl) (fun _ _ _ h => h) (Or.inl ⟨by rfl, ?_⟩) hHeld ?_
      rotate_left
      · intro wz hSw
        go_simp
        all_goals (with_reducible rfl)
      try simp only [Act.put, List.setIfInBounds_toArray, List.set_cons_zero, List.set_cons_succ]
      refine wpAnyH_take (i := 4) (oi := { dst := some 9, op := Op.fieldAddr 27 (Operand.tmp 3) 0, type := 0, pos := "ref.go:188", after := #[{ on := 3, ground := Ground.guard }], guard := some (3, true) }) (v := ?_) rfl (by kernel_rfl) (by kernel_rfl) (by kernel_rfl) (fun _ _ _ h => h) (Or.inl ⟨by rfl, ?_⟩) hHeld ?_
      rotate_left
      · intro wz hSw
        go_simp
        all_goals (with_reducible rfl)
      try simp only [Act.put, List.setIfInBounds_toArray, List.set_cons_zero, List.set_cons_succ]
      refine wpAnyH_take (i := 5) (oi := { dst := some 10, op := Op.load 3 (Operand.tmp 9), type := 3, pos := "ref.go:188", after := #[{ on := 4, ground := Ground.data }, { on := 3, ground := Ground.guard }], guard := some (3, true) }) (v := ?_) rfl (by kernel_rfl) (by kernel_rfl) (by kernel_rfl) (fun _ _ _ h => h) (Or.inl ⟨by rfl, ?_⟩) hHeld ?_
      rotate_left
      · intro wz hSw
        have q0 := c0q.out wz hSw
        go_simp
        all_goals (with_reducible rfl)
      try simp only [Act.put, List.setIfInBounds_toArray, List.set_cons_zero, List.set_cons_succ]
      refine wpAnyH_take (i := 6) (oi := { dst := some 11, op := Op.binOp BinOp.leq 3 (Operand.tmp 10) (Operand.const (Value.int IntKind.i64 65536)) 3, type := 4, pos := "ref.go:188", after := #[{ on := 5, ground := Ground.data }, { on := 3, ground := Ground.guard }], guard := some (3, true) }) (v := ?_) rfl (by kernel_rfl) (by kernel_rfl) (by kernel_rfl) (fun _ _ _ h => h) (Or.inl ⟨by rfl, ?_⟩) hHeld ?_
      rotate_left
      · intro wz hSw
        go_simp
        all_goals (with_reducible rfl)
      try simp only [Act.put, List.setIfInBounds_toArray, List.set_cons_zero, List.set_cons_succ]
      refine wpAnyH_take (i := 7) (oi := { dst := some 12, op := Op.pick (Operand.tmp 8) (Operand.tmp 11) (Operand.const (Value.bool false)), type := 4, pos := "ref.go:188", after := #[{ on := 3, ground := Ground.data }, { on := 6, ground := Ground.data }], guard := none }) (v := ?_) rfl (by kernel_rfl) (by kernel_rfl) (by kernel_rfl) (fun _ _ _ h => h) (Or.inl ⟨by rfl, ?_⟩) hHeld ?_
      rotate_left
      · intro wz hSw
        go_simp
        all_goals (with_reducible rfl)
      try simp only [Act.put, List.setIfInBounds_toArray, List.set_cons_zero, List.set_cons_succ]
      refine wpAnyH_take (i := 8) (oi := { dst := some 13, op := Op.move (Operand.tmp 12), type := 4, pos := "ref.go:188", after := #[{ on := 7, ground := Ground.data }, { on := 3, ground := Ground.chain }], guard := none }) (v := ?_) rfl (by kernel_rfl) (by kernel_rfl) (by kernel_rfl) (fun _ _ _ h => h) (Or.inl ⟨by rfl, ?_⟩) hHeld ?_
      rotate_left
      · intro wz hSw
        go_simp
        all_goals (with_reducible rfl)
      try simp only [Act.put, List.setIfInBounds_toArray, List.set_cons_zero, List.set_cons_succ]
      refine wpAnyH_take (i := 9) (oi := { dst := some 14, op := Op.move (Operand.tmp 0), type := 3, pos := "ref.go:188", after := #[{ on := 8, ground := Ground.guard }], guard := some (8, true) }) (v := undef) rfl (by kernel_rfl) (by kernel_rfl) (by kernel_rfl) (fun _ _ _ h => h) (Or.inr ⟨by rfl, rfl⟩) hHeld ?_
      try simp only [Act.put, List.setIfInBounds_toArray, List.set_cons_zero, List.set_cons_succ]
      refine wpAnyH_take (i := 10) (oi := { dst := some 15, op := Op.load 27 (Operand.tmp 3), type := 27, pos := "ref.go:188", after := #[{ on := 8, ground := Ground.guard }], guard := some (8, true) }) (v := undef) rfl (by kernel_rfl) (by kernel_rfl) (by kernel_rfl) (fun _ _ _ h => h) (Or.inr ⟨by rfl, rfl⟩) hHeld ?_
      try simp only [Act.put, List.setIfInBounds_toArray, List.set_cons_zero, List.set_cons_succ]
      refine wpAnyH_take (i := 12) (oi := { dst := some 17, op := Op.fieldAddr 27 (Operand.tmp 3) 3, type := 0, pos := "ref.go:188", after := #[{ on := 8, ground := Ground.guard }], guard := some (8, true) }) (v := undef) rfl (by kernel_rfl) (by kernel_rfl) (by kernel_rfl) (fun _ _ _ h => h) (Or.inr ⟨by rfl, rfl⟩) hHeld ?_
      try simp only [Act.put, List.setIfInBounds_toArray, List.set_cons_zero, List.set_cons_succ]
      refine wpAnyH_take (i := 13) (oi := { dst := some 18, op := Op.load 25 (Operand.tmp 17), type := 25, pos := "ref.go:188", after := #[{ on := 12, ground := Ground.data }, { on := 8, ground := Ground.guard }], guard := some (8, true) }) (v := undef) rfl (by kernel_rfl) (by kernel_rfl) (by kernel_rfl) (fun _ _ _ h => h) (Or.inr ⟨by rfl, rfl⟩) hHeld ?_
      try simp only [Act.put, List.setIfInBounds_toArray, List.set_cons_zero, List.set_cons_succ]
      refine wpAnyH_ready (rs := [11]) (by kernel_rfl) (by simp) ?_
      refine AllReadyH.cons (o := { dst := some 16, op := Op.call { callee := Callee.value (Operand.func 45), args := #[Operand.tmp 15], argTypes := #[27] }, type := 74, pos := "ref.go:188", after := #[{ on := 10, ground := Ground.data }, { on := 8, ground := Ground.chain }, { on := 8, ground := Ground.guard }], guard := some (8, true) }) rfl (fun K hK => ?_) AllReadyH.nil
      rw [if_neg (Bool.eq_false_iff.1 (by rfl))]
      refine hK.out _ _ hHeld (fun hHeld => ?_)
      clear hK K
      try simp only [Act.put, List.setIfInBounds_toArray, List.set_cons_zero, List.set_cons_succ]
      refine wpAnyH_ready (rs := [14]) (by kernel_rfl) (by simp) ?_
      refine AllReadyH.cons (o := { dst := some 19, op := Op.call { callee := Callee.value (Operand.func 50), args := #[Operand.tmp 14, Operand.tmp 16, Operand.tmp 18], argTypes := #[3, 74, 25] }, type := 4, pos := "ref.go:188", after := #[{ on := 9, ground := Ground.data }, { on := 11, ground := Ground.data }, { on := 13, ground := Ground.data }, { on := 11, ground := Ground.chain }, { on := 8, ground := Ground.guard }], guard := some (8, true) }) rfl (fun K hK => ?_) AllReadyH.nil
      rw [if_neg (Bool.eq_false_iff.1 (by rfl))]
      refine hK.out _ _ hHeld (fun hHeld => ?_)
      clear hK K
      try simp only [Act.put, List.setIfInBounds_toArray, List.set_cons_zero, List.set_cons_succ]
      refine wpAnyH_take (i := 15) (oi := { dst := some 20, op := Op.pick (Operand.tmp 13) (Operand.tmp 19) (Operand.const (Value.bool false)), type := 4, pos := "ref.go:188", after := #[{ on := 8, ground := Ground.data }, { on := 14, ground := Ground.data }], guard := none }) (v := ?_) rfl (by kernel_rfl) (by kernel_rfl) (by kernel_rfl) (fun _ _ _ h => h) (Or.inl ⟨by rfl, ?_⟩) hHeld ?_
      rotate_left
      · intro wz hSw
        go_simp
        all_goals (with_reducible rfl)
      try simp only [Act.put, List.setIfInBounds_toArray, List.set_cons_zero, List.set_cons_succ]
      refine wpAnyH_take (i := 16) (oi := { dst := some 4, op := Op.assign (Operand.tmp 20), type := 4, pos := "ref.go:188", after := #[{ on := 15, ground := Ground.data }, { on := 14, ground := Ground.chain }, { on := 0, ground := Ground.phase }, { on := 1, ground := Ground.phase }, { on := 2, ground := Ground.phase }, { on := 3, ground := Ground.phase }, { on := 4, ground := Ground.phase }, { on := 5, ground := Ground.phase }, { on := 6, ground := Ground.phase }, { on := 7, ground := Ground.phase }, { on := 8, ground := Ground.phase }, { on := 9, ground := Ground.phase }, { on := 10, ground := Ground.phase }, { on := 11, ground := Ground.phase }, { on := 12, ground := Ground.phase }, { on := 13, ground := Ground.phase }, { on := 14, ground := Ground.phase }, { on := 15, ground := Ground.phase }], guard := none }) (v := ?_) rfl (by kernel_rfl) (by kernel_rfl) (by kernel_rfl) (fun _ _ _ h => h) (Or.inl ⟨by rfl, ?_⟩) hHeld ?_
      rotate_left
      · intro wz hSw
        go_simp
        all_goals (with_reducible rfl)
      try simp only [Act.put, List.setIfInBounds_toArray, List.set_cons_zero, List.set_cons_succ]
      refine wpAnyH_done (by kernel_rfl) ?_ _
      go_wp2_with fail
      go_ret
      exact ⟨by rw [hv.out]; rfl, hHeld.2.2⟩
  · have h1' : decide (1 ≤ x.no) = false := by simpa using h1
    have hv : Hid (Go.Dr.signedB b pub x = false) := by show _ = _; unfold Go.Dr.signedB; rw [decide_eq_false (fun h => h1 h.1)]; rfl
    refine wp_region_held_drew (S := fun wz => SdX w tb x wz) (by kernel_rfl) (hM.drew) (fun hHeld => ?_)
    generalize W.drew = W0 at *
    refine wpAnyH_take (i := 0) (oi := { dst := some 5, op := Op.fieldAddr 27 (Operand.tmp 3) 0, type := 0, pos := "ref.go:188", after := #[], guard := none }) (v := ?_) rfl (by kernel_rfl) (by kernel_rfl) (by kernel_rfl) (fun _ _ _ h => h) (Or.inl ⟨by rfl, ?_⟩) hHeld ?_
    rotate_left
    · intro wz hSw
      go_simp
      all_goals (with_reducible rfl)
    try simp only [Act.put, List.setIfInBounds_toArray, List.set_cons_zero, List.set_cons_succ]
    refine wpAnyH_take (i := 1) (oi := { dst := some 6, op := Op.load 3 (Operand.tmp 5), type := 3, pos := "ref.go:188", after := #[{ on := 0, ground := Ground.data }], guard := none }) (v := ?_) rfl (by kernel_rfl) (by kernel_rfl) (by kernel_rfl) (fun _ _ _ h => h) (Or.inl ⟨by rfl, ?_⟩) hHeld ?_
    rotate_left
    · intro wz hSw
      have q0 := c0q.out wz hSw
      go_simp
      all_goals (with_reducible rfl)
    try simp only [Act.put, List.setIfInBounds_toArray, List.set_cons_zero, List.set_cons_succ]
    refine wpAnyH_take (i := 2) (oi := { dst := some 7, op := Op.binOp BinOp.geq 3 (Operand.tmp 6) (Operand.const (Value.int IntKind.i64 1)) 3, type := 4, pos := "ref.go:188", after := #[{ on := 1, ground := Ground.data }], guard := none }) (v := ?_) rfl (by kernel_rfl) (by kernel_rfl) (by kernel_rfl) (fun _ _ _ h => h) (Or.inl ⟨by rfl, ?_⟩) hHeld ?_
    rotate_left
    · intro wz hSw
      go_simp
      all_goals (with_reducible rfl)
    try simp only [Act.put, List.setIfInBounds_toArray, List.set_cons_zero, List.set_cons_succ]
    refine wpAnyH_take (i := 3) (oi := { dst := some 8, op := Op.move (Operand.tmp 7), type := 4, pos := "ref.go:188", after := #[{ on := 2, ground := Ground.data }], guard := none }) (v := ?_) rfl (by kernel_rfl) (by kernel_rfl) (by kernel_rfl) (fun _ _ _ h => h) (Or.inl ⟨by rfl, ?_⟩) hHeld ?_
    rotate_left
    · intro wz hSw
      go_simp
      all_goals (with_reducible rfl)
    try simp only [Act.put, List.setIfInBounds_toArray, List.set_cons_zero, List.set_cons_succ]
    refine wpAnyH_take (i := 4) (oi := { dst := some 9, op := Op.fieldAddr 27 (Operand.tmp 3) 0, type := 0, pos := "ref.go:188", after := #[{ on := 3, ground := Ground.guard }], guard := some (3, true) }) (v := undef) rfl (by kernel_rfl) (by kernel_rfl) (by kernel_rfl) (fun _ _ _ h => h) (Or.inr ⟨by rfl, rfl⟩) hHeld ?_
    try simp only [Act.put, List.setIfInBounds_toArray, List.set_cons_zero, List.set_cons_succ]
    refine wpAnyH_take (i := 5) (oi := { dst := some 10, op := Op.load 3 (Operand.tmp 9), type := 3, pos := "ref.go:188", after := #[{ on := 4, ground := Ground.data }, { on := 3, ground := Ground.guard }], guard := some (3, true) }) (v := undef) rfl (by kernel_rfl) (by kernel_rfl) (by kernel_rfl) (fun _ _ _ h => h) (Or.inr ⟨by rfl, rfl⟩) hHeld ?_
    try simp only [Act.put, List.setIfInBounds_toArray, List.set_cons_zero, List.set_cons_succ]
    refine wpAnyH_take (i := 6) (oi := { dst := some 11, op := Op.binOp BinOp.leq 3 (Operand.tmp 10) (Operand.const (Value.int IntKind.i64 65536)) 3, type := 4, pos := "ref.go:188", after := #[{ on := 5, ground := Ground.data }, { on := 3, ground := Ground.guard }], guard := some (3, true) }) (v := undef) rfl (by kernel_rfl) (by kernel_rfl) (by kernel_rfl) (fun _ _ _ h => h) (Or.inr ⟨by rfl, rfl⟩) hHeld ?_
    try simp only [Act.put, List.setIfInBounds_toArray, List.set_cons_zero, List.set_cons_succ]
    refine wpAnyH_take (i := 7) (oi := { dst := some 12, op := Op.pick (Operand.tmp 8) (Operand.tmp 11) (Operand.const (Value.bool false)), type := 4, pos := "ref.go:188", after := #[{ on := 3, ground := Ground.data }, { on := 6, ground := Ground.data }], guard := none }) (v := ?_) rfl (by kernel_rfl) (by kernel_rfl) (by kernel_rfl) (fun _ _ _ h => h) (Or.inl ⟨by rfl, ?_⟩) hHeld ?_
    rotate_left
    · intro wz hSw
      go_simp
      all_goals (with_reducible rfl)
    try simp only [Act.put, List.setIfInBounds_toArray, List.set_cons_zero, List.set_cons_succ]
    refine wpAnyH_take (i := 8) (oi := { dst := some 13, op := Op.move (Operand.tmp 12), type := 4, pos := "ref.go:188", after := #[{ on := 7, ground := Ground.data }, { on := 3, ground := Ground.chain }], guard := none }) (v := ?_) rfl (by kernel_rfl) (by kernel_rfl) (by kernel_rfl) (fun _ _ _ h => h) (Or.inl ⟨by rfl, ?_⟩) hHeld ?_
    rotate_left
    · intro wz hSw
      go_simp
      all_goals (with_reducible rfl)
    try simp only [Act.put, List.setIfInBounds_toArray, List.set_cons_zero, List.set_cons_succ]
    refine wpAnyH_take (i := 9) (oi := { dst := some 14, op := Op.move (Operand.tmp 0), type := 3, pos := "ref.go:188", after := #[{ on := 8, ground := Ground.guard }], guard := some (8, true) }) (v := undef) rfl (by kernel_rfl) (by kernel_rfl) (by kernel_rfl) (fun _ _ _ h => h) (Or.inr ⟨by rfl, rfl⟩) hHeld ?_
    try simp only [Act.put, List.setIfInBounds_toArray, List.set_cons_zero, List.set_cons_succ]
    refine wpAnyH_take (i := 10) (oi := { dst := some 15, op := Op.load 27 (Operand.tmp 3), type := 27, pos := "ref.go:188", after := #[{ on := 8, ground := Ground.guard }], guard := some (8, true) }) (v := undef) rfl (by kernel_rfl) (by kernel_rfl) (by kernel_rfl) (fun _ _ _ h => h) (Or.inr ⟨by rfl, rfl⟩) hHeld ?_
    try simp only [Act.put, List.setIfInBounds_toArray, List.set_cons_zero, List.set_cons_succ]
    refine wpAnyH_take (i := 12) (oi := { dst := some 17, op := Op.fieldAddr 27 (Operand.tmp 3) 3, type := 0, pos := "ref.go:188", after := #[{ on := 8, ground := Ground.guard }], guard := some (8, true) }) (v := undef) rfl (by kernel_rfl) (by kernel_rfl) (by kernel_rfl) (fun _ _ _ h => h) (Or.inr ⟨by rfl, rfl⟩) hHeld ?_
    try simp only [Act.put, List.setIfInBounds_toArray, List.set_cons_zero, List.set_cons_succ]
    refine wpAnyH_take (i := 13) (oi := { dst := some 18, op := Op.load 25 (Operand.tmp 17), type := 25, pos := "ref.go:188", after := #[{ on := 12, ground := Ground.data }, { on := 8, ground := Ground.guard }], guard := some (8, true) }) (v := undef) rfl (by kernel_rfl) (by kernel_rfl) (by kernel_rfl) (fun _ _ _ h => h) (Or.inr ⟨by rfl, rfl⟩) hHeld ?_
    try simp only [Act.put, List.setIfInBounds_toArray, List.set_cons_zero, List.set_cons_succ]
    refine wpAnyH_ready (rs := [11]) (by kernel_rfl) (by simp) ?_
    refine AllReadyH.cons (o := { dst := some 16, op := Op.call { callee := Callee.value (Operand.func 45), args := #[Operand.tmp 15], argTypes := #[27] }, type := 74, pos := "ref.go:188", after := #[{ on := 10, ground := Ground.data }, { on := 8, ground := Ground.chain }, { on := 8, ground := Ground.guard }], guard := some (8, true) }) rfl (fun K hK => ?_) AllReadyH.nil
    rw [if_neg (Bool.eq_false_iff.1 (by rfl))]
    refine hK.out _ _ hHeld (fun hHeld => ?_)
    clear hK K
    try simp only [Act.put, List.setIfInBounds_toArray, List.set_cons_zero, List.set_cons_succ]
    refine wpAnyH_ready (rs := [14]) (by kernel_rfl) (by simp) ?_
    refine AllReadyH.cons (o := { dst := some 19, op := Op.call { callee := Callee.value (Operand.func 50), args := #[Operand.tmp 14, Operand.tmp 16, Operand.tmp 18], argTypes := #[3, 74, 25] }, type := 4, pos := "ref.go:188", after := #[{ on := 9, ground := Ground.data }, { on := 11, ground := Ground.data }, { on := 13, ground := Ground.data }, { on := 11, ground := Ground.chain }, { on := 8, ground := Ground.guard }], guard := some (8, true) }) rfl (fun K hK => ?_) AllReadyH.nil
    rw [if_neg (Bool.eq_false_iff.1 (by rfl))]
    refine hK.out _ _ hHeld (fun hHeld => ?_)
    clear hK K
    try simp only [Act.put, List.setIfInBounds_toArray, List.set_cons_zero, List.set_cons_succ]
    refine wpAnyH_take (i := 15) (oi := { dst := some 20, op := Op.pick (Operand.tmp 13) (Operand.tmp 19) (Operand.const (Value.bool false)), type := 4, pos := "ref.go:188", after := #[{ on := 8, ground := Ground.data }, { on := 14, ground := Ground.data }], guard := none }) (v := ?_) rfl (by kernel_rfl) (by kernel_rfl) (by kernel_rfl) (fun _ _ _ h => h) (Or.inl ⟨by rfl, ?_⟩) hHeld ?_
    rotate_left
    · intro wz hSw
      go_simp
      all_goals (with_reducible rfl)
    try simp only [Act.put, List.setIfInBounds_toArray, List.set_cons_zero, List.set_cons_succ]
    refine wpAnyH_take (i := 16) (oi := { dst := some 4, op := Op.assign (Operand.tmp 20), type := 4, pos := "ref.go:188", after := #[{ on := 15, ground := Ground.data }, { on := 14, ground := Ground.chain }, { on := 0, ground := Ground.phase }, { on := 1, ground := Ground.phase }, { on := 2, ground := Ground.phase }, { on := 3, ground := Ground.phase }, { on := 4, ground := Ground.phase }, { on := 5, ground := Ground.phase }, { on := 6, ground := Ground.phase }, { on := 7, ground := Ground.phase }, { on := 8, ground := Ground.phase }, { on := 9, ground := Ground.phase }, { on := 10, ground := Ground.phase }, { on := 11, ground := Ground.phase }, { on := 12, ground := Ground.phase }, { on := 13, ground := Ground.phase }, { on := 14, ground := Ground.phase }, { on := 15, ground := Ground.phase }], guard := none }) (v := ?_) rfl (by kernel_rfl) (by kernel_rfl) (by kernel_rfl) (fun _ _ _ h => h) (Or.inl ⟨by rfl, ?_⟩) hHeld ?_
    rotate_left
    · intro wz hSw
      go_simp
      all_goals (with_reducible rfl)
    try simp only [Act.put, List.setIfInBounds_toArray, List.set_cons_zero, List.set_cons_succ]
    refine wpAnyH_done (by kernel_rfl) ?_ _
    go_wp2_with fail
    go_ret
    exact ⟨by rw [hv.out]; rfl, hHeld.2.2⟩
theorem r35signed_any (pub : Int) (x : Rt) (hx : OkQ x) (w : World) :
    Calls Tryz.prog 13 #[.int .i64 pub, .agg (rC x).toArray] w (RetBo (Go.Dr.signedB 4 pub x) w) :=
  r35signed_b 4 (fun pub R S a n c l w H hn => r5verify_any pub R S a n c l w H hn) pub x hx w
end Go.Proofs.YthhblcbnnmoojaaGreatDoor
