/- StoreCheckSpec: for every store, number and key the law returns true and its arguments read as before; the package variables digest.start and digest.numbers are as the program's text lays them (the tied card); no other condition. -/
import Derived.Test.YtlpgjdlkjahdgaaGreatDoorRsB
import Derived.Test.YtlpgjdlkjahdgaaGreatDoorSne
import Derived.Test.YtlpgjdlkjahdgaaGreatDoorOpf
import Derived.Test.YtlpgjdlkjahdgaaGreatDoorCards
import Derived.Test.YtlpgjdlkjahdgaaGreatDoorTie
import Derived.SevenTiedAt
import Derived.Deep.DeepHandedRow
import Derived.Deep.DeepWitnessRowRef
namespace Go.Proofs.YtlpgjdlkjahdgaaGreatDoor
open Go.RowKit Go.Mem
open Go.Sto (Ent Lg St)

structure ScW (w : World) (sb g7 g9 : Nat) (s : St) (a : Option Addr) (n c : Nat) (i p : Int) (W : World) : Prop where
  bS : Blk W sb 24 (stC s a n c)
  b7 : Blk W g7 24 [.int .i64 i, .int .i64 p, .slice none 0 0]
  b9 : Blk W g9 24 [.int .i64 i, .int .i64 p, .slice none 0 0]
  bel : Below w.heap.size w W
theorem ScW.next {w W W2 : World} {sb g7 g9 : Nat} {s : St} {a : Option Addr} {n c : Nat} {i p : Int} (h : ScW w sb g7 g9 s a n c i p W) (hb : Below W.heap.size W W2) : ScW w sb g7 g9 s a n c i p W2 :=
  ⟨h.bS.below hb h.bS.lt, h.b7.below hb h.b7.lt, h.b9.below hb h.b9.lt, h.bel.trans (hb.mono h.bel.size)⟩
theorem newPost_ex {id priv : Int} (hi : I64 id) (hp : I64 priv) : ∃ i p q, I64 i ∧ I64 p ∧ ∀ W e W', NewPost id priv W e W' → e = .returned (.tuple #[.agg #[.int .i64 i, .int .i64 p, .slice none 0 0], .int .i64 q]) ∧ Below W.heap.size W W' := by
  by_cases h : Sto.newE id priv = 0
  · refine ⟨id, priv, 0, hi, hp, fun W e W' hh => ?_⟩
    unfold NewPost at hh
    rw [h, if_pos rfl] at hh
    exact hh
  · refine ⟨0, 0, Sto.newE id priv, i64_0, i64_0, fun W e W' hh => ?_⟩
    unfold NewPost at hh
    rw [if_neg h] at hh
    exact hh

set_option maxRecDepth 100000 in
set_option maxHeartbeats 8000000 in
theorem scs_walk (s : St) (a : Option Addr) (n c : Nat) (id : Int) (hid : I64 id) (priv : Int) (hpr : I64 priv) (w : World) (HT : Tabs w) (H : SVr w a n c s) :
    Calls Tryz.prog 3 #[.agg (stC s a n c).toArray, .int .i64 id, .int .i64 priv] w (RetBo true w) := by
  have HT' := Lib.hid HT
  have H' := Lib.hid H
  clear HT H
  obtain ⟨X, hX⟩ : ∃ X, X = RetBo true w := ⟨_, rfl⟩
  have hfin : Hid (∀ W, Below w.heap.size w W → X (.returned (.bool true)) W) := fun W h => by rw [hX]; exact ⟨rfl, h⟩
  rw [← hX]
  clear hX
  obtain ⟨sb, hsb⟩ : ∃ sb, Hid (w.heap.size = sb) := ⟨_, rfl⟩
  obtain ⟨i, p, q, hi, hp, hne⟩ := newPost_ex hid hpr
  have hne' := Lib.hid hne
  clear hne hid hpr
  go_enter Tryz.func3, Tryz.ntmps3
  go_upto_region 1 with fail
  rw [hsb.out]
  generalize hW : World.alloc _ _ = W1
  have hB : Hid (Blk W1 sb 24 (stC s a n c)) := by rw [← hW, ← hsb.out]; exact Blk.new w _ (stC s a n c)
  have hb : Hid (Below w.heap.size w W1) := by rw [← hW]; exact (Below.refl _ w).alloc (Nat.le_refl _) _
  clear hW
  go_wp2_with fail
  refine (sane_any _ (HT'.out.below hb.out)).mono ?_
  rintro e w1 ⟨rfl, hb1⟩
  have hB1 := Lib.hid (hB.out.below hb1 hB.out.lt)
  have hbw := Lib.hid (hb.out.trans (hb1.mono hb.out.size))
  clear hb1 hb hB
  have s0 := hB1.out.at_ (i := 0) rfl
  have s1 := hB1.out.at_ (i := 1) rfl
  have s2 := hB1.out.at_ (i := 2) rfl
  go_wp2_with fail
  refine (few30s_any a n c s w1 (H'.out.below hbw.out)).mono ?_
  rintro e w2 ⟨rfl, hb2⟩
  have hB2 := Lib.hid (hB1.out.below hb2 hB1.out.lt)
  have hbw2 := Lib.hid (hbw.out.trans (hb2.mono hbw.out.size))
  clear s0 s1 s2 hb2 hB1 hbw
  cases hfw : few30s s with
  | false =>
    have hend := Lib.hid (hfin.out w2 hbw2.out)
    clear hfin hfw
    go_wp2_with fail
    exact hend.out
  | true =>
    have HS := Lib.hid (H'.out.sv hfw)
    clear hfw
    go_wp2_with fail
    refine (New_any id priv w2).mono ?_
    rintro e w3 hpost
    obtain ⟨rfl, hb3⟩ := hne'.out _ _ _ hpost
    clear hpost
    obtain ⟨g7, hg7⟩ : ∃ g, Hid (w3.heap.size = g) := ⟨_, rfl⟩
    have hB3 := Lib.hid (hB2.out.below hb3 hB2.out.lt)
    have hbw3 := Lib.hid (hbw2.out.trans (hb3.mono hbw2.out.size))
    clear hb3 hB2 hbw2
    go_upto_region 6 with fail
    rw [hg7.out]
    generalize hW : World.alloc _ _ = W4
    have h7 : Hid (Blk W4 g7 24 [.int .i64 i, .int .i64 p, .slice none 0 0]) := by rw [← hW, ← hg7.out]; exact Blk.new w3 _ [.int .i64 i, .int .i64 p, .slice none 0 0]
    have hB4 : Hid (Blk W4 sb 24 (stC s a n c)) := by rw [← hW]; exact hB3.out.alloc _
    have hb4 : Hid (Below w.heap.size w W4) := by rw [← hW]; exact hbw3.out.alloc hbw3.out.size _
    clear hW hB3 hbw3
    go_wp2_with fail
    refine (r30new_any id priv W4).mono ?_
    rintro e w5 hpost
    obtain ⟨rfl, hb5⟩ := hne'.out _ _ _ hpost
    clear hpost
    obtain ⟨g9, hg9⟩ : ∃ g, Hid (w5.heap.size = g) := ⟨_, rfl⟩
    have h75 := Lib.hid (h7.out.below hb5 h7.out.lt)
    have hB5 := Lib.hid (hB4.out.below hb5 hB4.out.lt)
    have hbw5 := Lib.hid (hb4.out.trans (hb5.mono hb4.out.size))
    clear hb5 h7 hB4 hb4
    go_upto_region 7 with fail
    rw [hg9.out]
    generalize hW : World.alloc _ _ = V
    have hS : Hid (ScW w sb g7 g9 s a n c i p V) := by
      refine ⟨?_, ?_, ?_, ?_⟩
      · rw [← hW]; exact hB5.out.alloc _
      · rw [← hW]; exact h75.out.alloc _
      · rw [← hW, ← hg9.out]; exact Blk.new w5 _ [.int .i64 i, .int .i64 p, .slice none 0 0]
      · rw [← hW]; exact hbw5.out.alloc hbw5.out.size _
    clear hW h75 hB5 hbw5 hne'
    have hpp : ∀ W, SV (fun _ => True) W none 0 0 (⟨i, p, []⟩ : St) := fun W => ⟨LS.nil0 _ _, hi, hp⟩
    have hsm := Lib.hid (fun W => same_any (fun _ => True) (fun _ => True) none none 0 0 0 ⟨i, p, []⟩ W (hpp W) (hpp W))
    have hck := Lib.hid (fun W (hW : Below w.heap.size w W) => Check_any (fun _ => True) a n c s W (HT'.out.below hW) (HS.out.below hW))
    have hrk := Lib.hid (fun W (hW : Below w.heap.size w W) => r30check_any (fun _ => True) a n c s W (HS.out.below hW))
    obtain ⟨cq, hcq⟩ : ∃ q, Hid (Sto.chkS s = q) := ⟨_, rfl⟩
    rw [hcq.out] at hck hrk
    refine wp_region_held_drew (S := fun wz => ScW w sb g7 g9 s a n c i p wz) (by kernel_rfl) (hS.out.next (Below.refl _ V).drew) (fun hHeld => ?_)
    have hh0 := hS.out.next (Below.refl _ V).drew
    clear hh0
    generalize V.drew = W6 at *
    refine wpAnyH_take (i := 0) (oi := { dst := some 28, op := Op.load 24 (Operand.tmp 7), type := 24, pos := "law.go:42", after := #[], guard := none }) (v := ?_) rfl (by kernel_rfl) (by kernel_rfl) (by kernel_rfl) (fun _ _ _ h => h) (Or.inl ⟨by rfl, ?_⟩) hHeld ?_
    rotate_left
    · intro wz hSw
      have q0 := hSw.b7.at_ (i := 0) rfl
      have q1 := hSw.b7.at_ (i := 1) rfl
      have q2 := hSw.b7.at_ (i := 2) rfl
      go_simp
      all_goals (with_reducible rfl)
    try simp only [Act.put, List.setIfInBounds_toArray, List.set_cons_zero, List.set_cons_succ]
    refine wpAnyH_take (i := 1) (oi := { dst := some 29, op := Op.load 24 (Operand.tmp 9), type := 24, pos := "law.go:42", after := #[], guard := none }) (v := ?_) rfl (by kernel_rfl) (by kernel_rfl) (by kernel_rfl) (fun _ _ _ h => h) (Or.inl ⟨by rfl, ?_⟩) hHeld ?_
    rotate_left
    · intro wz hSw
      have q0 := hSw.b9.at_ (i := 0) rfl
      have q1 := hSw.b9.at_ (i := 1) rfl
      have q2 := hSw.b9.at_ (i := 2) rfl
      go_simp
      all_goals (with_reducible rfl)
    try simp only [Act.put, List.setIfInBounds_toArray, List.set_cons_zero, List.set_cons_succ]
    refine wpAnyH_ready (rs := [2]) (by kernel_rfl) (by simp) ?_
    refine AllReadyH.cons (o := { dst := some 30, op := Op.call { callee := Callee.value (Operand.func 13), args := #[Operand.tmp 28, Operand.tmp 29], argTypes := #[24, 24] }, type := 4, pos := "law.go:42", after := #[{ on := 0, ground := Ground.data }, { on := 1, ground := Ground.data }], guard := none }) rfl (fun K hK => ?_) AllReadyH.nil
    rw [if_pos (by rfl)]
    show Oper.wp _ _ _ _ K _
    go_simp
    go_at_call 13
    refine (hsm.out W6).mono ?_
    rintro e W7 ⟨rfl, hb1⟩
    refine hK.out _ _ (hHeld.next hb1) (fun hHeld2 => ?_)
    clear hb1
    clear hHeld
    have hHeld := hHeld2
    clear hHeld2
    clear hK K
    try simp only [Act.put, List.setIfInBounds_toArray, List.set_cons_zero, List.set_cons_succ]
    refine wpAnyH_take (i := 3) (oi := { dst := some 31, op := Op.move (Operand.tmp 30), type := 4, pos := "law.go:42", after := #[{ on := 2, ground := Ground.data }, { on := 2, ground := Ground.chain }], guard := none }) (v := ?_) rfl (by kernel_rfl) (by kernel_rfl) (by kernel_rfl) (fun _ _ _ h => h) (Or.inl ⟨by rfl, ?_⟩) hHeld ?_
    rotate_left
    · intro wz hSw
      go_simp
      all_goals (with_reducible rfl)
    try simp only [Act.put, List.setIfInBounds_toArray, List.set_cons_zero, List.set_cons_succ]
    refine wpAnyH_take (i := 4) (oi := { dst := some 32, op := Op.move (Operand.tmp 8), type := 27, pos := "law.go:42", after := #[{ on := 3, ground := Ground.guard }], guard := some (3, true) }) (v := ?_) rfl (by kernel_rfl) (by kernel_rfl) (by kernel_rfl) (fun _ _ _ h => h) (Or.inl ⟨by rfl, ?_⟩) hHeld ?_
    rotate_left
    · intro wz hSw
      go_simp
      all_goals (with_reducible rfl)
    try simp only [Act.put, List.setIfInBounds_toArray, List.set_cons_zero, List.set_cons_succ]
    refine wpAnyH_take (i := 5) (oi := { dst := some 33, op := Op.move (Operand.tmp 10), type := 27, pos := "law.go:42", after := #[{ on := 3, ground := Ground.guard }], guard := some (3, true) }) (v := ?_) rfl (by kernel_rfl) (by kernel_rfl) (by kernel_rfl) (fun _ _ _ h => h) (Or.inl ⟨by rfl, ?_⟩) hHeld ?_
    rotate_left
    · intro wz hSw
      go_simp
      all_goals (with_reducible rfl)
    try simp only [Act.put, List.setIfInBounds_toArray, List.set_cons_zero, List.set_cons_succ]
    refine wpAnyH_take (i := 6) (oi := { dst := some 34, op := Op.binOp BinOp.eql 27 (Operand.tmp 32) (Operand.tmp 33) 27, type := 4, pos := "law.go:42", after := #[{ on := 4, ground := Ground.data }, { on := 5, ground := Ground.data }, { on := 3, ground := Ground.guard }], guard := some (3, true) }) (v := ?_) rfl (by kernel_rfl) (by kernel_rfl) (by kernel_rfl) (fun _ _ _ h => h) (Or.inl ⟨by rfl, ?_⟩) hHeld ?_
    rotate_left
    · intro wz hSw
      go_simp
      all_goals (with_reducible rfl)
    try simp only [Act.put, List.setIfInBounds_toArray, List.set_cons_zero, List.set_cons_succ]
    refine wpAnyH_take (i := 7) (oi := { dst := some 35, op := Op.pick (Operand.tmp 31) (Operand.tmp 34) (Operand.const (Value.bool false)), type := 4, pos := "law.go:42", after := #[{ on := 3, ground := Ground.data }, { on := 6, ground := Ground.data }], guard := none }) (v := ?_) rfl (by kernel_rfl) (by kernel_rfl) (by kernel_rfl) (fun _ _ _ h => h) (Or.inl ⟨by rfl, ?_⟩) hHeld ?_
    rotate_left
    · intro wz hSw
      go_simp
      all_goals (with_reducible rfl)
    try simp only [Act.put, List.setIfInBounds_toArray, List.set_cons_zero, List.set_cons_succ]
    refine wpAnyH_take (i := 8) (oi := { dst := some 36, op := Op.move (Operand.tmp 35), type := 4, pos := "law.go:42", after := #[{ on := 7, ground := Ground.data }, { on := 3, ground := Ground.chain }], guard := none }) (v := ?_) rfl (by kernel_rfl) (by kernel_rfl) (by kernel_rfl) (fun _ _ _ h => h) (Or.inl ⟨by rfl, ?_⟩) hHeld ?_
    rotate_left
    · intro wz hSw
      go_simp
      all_goals (with_reducible rfl)
    try simp only [Act.put, List.setIfInBounds_toArray, List.set_cons_zero, List.set_cons_succ]
    refine wpAnyH_take (i := 9) (oi := { dst := some 37, op := Op.load 24 (Operand.tmp 3), type := 24, pos := "law.go:42", after := #[{ on := 8, ground := Ground.guard }], guard := some (8, true) }) (v := ?_) rfl (by kernel_rfl) (by kernel_rfl) (by kernel_rfl) (fun _ _ _ h => h) (Or.inl ⟨by rfl, ?_⟩) hHeld ?_
    rotate_left
    · intro wz hSw
      have q0 := hSw.bS.at_ (i := 0) rfl
      have q1 := hSw.bS.at_ (i := 1) rfl
      have q2 := hSw.bS.at_ (i := 2) rfl
      go_simp
      all_goals (with_reducible rfl)
    try simp only [Act.put, List.setIfInBounds_toArray, List.set_cons_zero, List.set_cons_succ]
    refine wpAnyH_take (i := 11) (oi := { dst := some 39, op := Op.load 24 (Operand.tmp 3), type := 24, pos := "law.go:42", after := #[{ on := 8, ground := Ground.guard }], guard := some (8, true) }) (v := ?_) rfl (by kernel_rfl) (by kernel_rfl) (by kernel_rfl) (fun _ _ _ h => h) (Or.inl ⟨by rfl, ?_⟩) hHeld ?_
    rotate_left
    · intro wz hSw
      have q0 := hSw.bS.at_ (i := 0) rfl
      have q1 := hSw.bS.at_ (i := 1) rfl
      have q2 := hSw.bS.at_ (i := 2) rfl
      go_simp
      all_goals (with_reducible rfl)
    try simp only [Act.put, List.setIfInBounds_toArray, List.set_cons_zero, List.set_cons_succ]
    refine wpAnyH_ready (rs := [10]) (by kernel_rfl) (by simp) ?_
    refine AllReadyH.cons (o := { dst := some 38, op := Op.call { callee := Callee.value (Operand.func 14), args := #[Operand.tmp 37], argTypes := #[24] }, type := 27, pos := "law.go:42", after := #[{ on := 9, ground := Ground.data }, { on := 8, ground := Ground.chain }, { on := 8, ground := Ground.guard }], guard := some (8, true) }) rfl (fun K hK => ?_) AllReadyH.nil
    rw [if_pos (by rfl)]
    show Oper.wp _ _ _ _ K _
    go_simp
    go_at_call 14
    refine (hck.out W7 hHeld.bel).mono ?_
    rintro e W8 ⟨rfl, hb1⟩
    refine hK.out _ _ (hHeld.next hb1) (fun hHeld2 => ?_)
    clear hb1
    clear hHeld
    have hHeld := hHeld2
    clear hHeld2
    clear hK K
    try simp only [Act.put, List.setIfInBounds_toArray, List.set_cons_zero, List.set_cons_succ]
    refine wpAnyH_ready (rs := [12]) (by kernel_rfl) (by simp) ?_
    refine AllReadyH.cons (o := { dst := some 40, op := Op.call { callee := Callee.value (Operand.func 15), args := #[Operand.tmp 39], argTypes := #[24] }, type := 27, pos := "law.go:42", after := #[{ on := 11, ground := Ground.data }, { on := 10, ground := Ground.chain }, { on := 8, ground := Ground.guard }], guard := some (8, true) }) rfl (fun K hK => ?_) AllReadyH.nil
    rw [if_pos (by rfl)]
    show Oper.wp _ _ _ _ K _
    go_simp
    go_at_call 15
    refine (hrk.out W8 hHeld.bel).mono ?_
    rintro e W9 ⟨rfl, hb1⟩
    refine hK.out _ _ (hHeld.next hb1) (fun hHeld2 => ?_)
    clear hb1
    clear hHeld
    have hHeld := hHeld2
    clear hHeld2
    clear hK K
    try simp only [Act.put, List.setIfInBounds_toArray, List.set_cons_zero, List.set_cons_succ]
    refine wpAnyH_take (i := 13) (oi := { dst := some 41, op := Op.binOp BinOp.eql 27 (Operand.tmp 38) (Operand.tmp 40) 27, type := 4, pos := "law.go:42", after := #[{ on := 10, ground := Ground.data }, { on := 12, ground := Ground.data }, { on := 8, ground := Ground.guard }], guard := some (8, true) }) (v := ?_) rfl (by kernel_rfl) (by kernel_rfl) (by kernel_rfl) (fun _ _ _ h => h) (Or.inl ⟨by rfl, ?_⟩) hHeld ?_
    rotate_left
    · intro wz hSw
      go_simp
      all_goals (with_reducible rfl)
    try simp only [Act.put, List.setIfInBounds_toArray, List.set_cons_zero, List.set_cons_succ]
    refine wpAnyH_take (i := 14) (oi := { dst := some 42, op := Op.pick (Operand.tmp 36) (Operand.tmp 41) (Operand.const (Value.bool false)), type := 4, pos := "law.go:42", after := #[{ on := 8, ground := Ground.data }, { on := 13, ground := Ground.data }], guard := none }) (v := ?_) rfl (by kernel_rfl) (by kernel_rfl) (by kernel_rfl) (fun _ _ _ h => h) (Or.inl ⟨by rfl, ?_⟩) hHeld ?_
    rotate_left
    · intro wz hSw
      go_simp
      all_goals (with_reducible rfl)
    try simp only [Act.put, List.setIfInBounds_toArray, List.set_cons_zero, List.set_cons_succ]
    refine wpAnyH_take (i := 15) (oi := { dst := some 6, op := Op.assign (Operand.tmp 42), type := 4, pos := "law.go:42", after := #[{ on := 14, ground := Ground.data }, { on := 12, ground := Ground.chain }, { on := 0, ground := Ground.phase }, { on := 1, ground := Ground.phase }, { on := 2, ground := Ground.phase }, { on := 3, ground := Ground.phase }, { on := 4, ground := Ground.phase }, { on := 5, ground := Ground.phase }, { on := 6, ground := Ground.phase }, { on := 7, ground := Ground.phase }, { on := 8, ground := Ground.phase }, { on := 9, ground := Ground.phase }, { on := 10, ground := Ground.phase }, { on := 11, ground := Ground.phase }, { on := 12, ground := Ground.phase }, { on := 13, ground := Ground.phase }, { on := 14, ground := Ground.phase }], guard := none }) (v := ?_) rfl (by kernel_rfl) (by kernel_rfl) (by kernel_rfl) (fun _ _ _ h => h) (Or.inl ⟨by rfl, ?_⟩) hHeld ?_
    rotate_left
    · intro wz hSw
      go_simp
      all_goals (with_reducible rfl)
    try simp only [Act.put, List.setIfInBounds_toArray, List.set_cons_zero, List.set_cons_succ]
    refine wpAnyH_done (by kernel_rfl) ?_ _
    have hend := Lib.hid (hfin.out W9 hHeld.bel)
    clear hHeld
    go_wp2_with fail
    exact hend.out
end Go.Proofs.YtlpgjdlkjahdgaaGreatDoor
namespace Go.Proofs.YtlpgjdlkjahdgaaGreatDoor.lawSCheckSpec
open Go.ChangeShapes Go.WideShapes Go.ChangeAt Go.RowKit Go.Mem
open Go.Proofs.YtlpgjdlkjahdgaaGreatDoor

set_option maxRecDepth 100000 in
theorem lifted (os : Os) (started : os.Started) (H : Type) (enc : TypeId × Value → H) :
    ReturnsInHanded {} Tryz.checked os 3 .any (fun w args => (Rows.storeCheckSpecSpec.pre enc Tryz.prog Tryz.f3 [] false w args ∧ laidMetH Tryz.prog laid2 w) ∧ sizedMet enc Tryz.prog Tryz.f3 (OpenSpec.ofChange Rows.storeCheckSpecSpec) false w args)
      (Rows.storeCheckSpecSpec.post enc Tryz.prog Tryz.f3 false true false false) := by
  refine returnsInHanded_of_change_and (C := Tryz.checked) (X := fun w _ => laidMetH Tryz.prog laid2 w) (fun _ _ _ hh h => h.of_heap hh) own started (by kernel_rfl) Tryz.func3
    (ChangeSpec.witness_shaped (enc := enc) (C := Tryz.checked) (os := os) (X := fun w _ => laidMetH Tryz.prog laid2 w) false (World.doorLaid Tryz.prog 400 os) #[.agg (stC ⟨0, 0, []⟩ none 0 0).toArray, .int .i64 0, .int .i64 0] 8 rfl (World.shaped_of_RefB (by kernel_rfl) (by kernel_rfl)) (by kernel_rfl) (by kernel_rfl) (by kernel_rfl) (door_met os _)) ?_
  intro W base args ds gs before hval0 hW _ hwt hL _
  have hval : ∀ (j : Nat) t v, Tryz.f3.params[j]? = some t → args[j]? = some v → Value.okWide Tryz.prog W .any base t v := hval0
  have hW' := hW
  obtain ⟨p, q, hA0, hV, rfl, hfz, hnd⟩ := hW
  have hA : DataW.TrodAll enc Tryz.prog W 0 (fun _ => true) true Tryz.f3.params.toList args.toList ds p := hA0
  rw [Tryz.params3] at hA hval
  obtain ⟨v0, vs0, d0, ds0, p0, q0, hargs, rfl, rfl, h0, r0⟩ := trodAll_cons hA
  obtain ⟨v1, vs1, d1, ds1, p1, q1, rfl, rfl, rfl, h1, r1⟩ := trodAll_cons r0
  obtain ⟨v2, vs2, d2, ds2, p2, q2, rfl, rfl, rfl, h2, r2⟩ := trodAll_cons r1
  obtain ⟨rfl, rfl, rfl⟩ := trodAll_nil r2
  obtain rfl : args = #[v0, v1, v2] := by cases args; simp_all
  obtain ⟨rfl, rfl⟩ := trodVars_none hV
  have lt0 : ∀ x ∈ p0, x.block < W.heap.size := by obtain ⟨m, hm⟩ := h0; exact DataW.trod_lt m _ _ _ hm
  have lt1 : ∀ x ∈ p1, x.block < W.heap.size := by obtain ⟨m, hm⟩ := h1; exact DataW.trod_lt m _ _ _ hm
  have lt2 : ∀ x ∈ p2, x.block < W.heap.size := by obtain ⟨m, hm⟩ := h2; exact DataW.trod_lt m _ _ _ hm
  have k0' := h0
  have k1' := h1
  have k2' := h2
  obtain ⟨cs0, rfl, _⟩ := okWide_struct Tryz.underlying24 (hval 0 24 v0 rfl rfl)
  obtain ⟨m0, hm0⟩ := h0
  obtain ⟨s0, a0, n0, c0, e0, S0⟩ := open_store (cs := cs0.toList) (by simpa [Value.cells] using hm0)
  obtain rfl : cs0 = (stC s0 a0 n0 c0).toArray := by rw [← e0]
  clear hm0 e0
  obtain ⟨x1, rfl⟩ := okWide_int Tryz.underlying3 (hval 1 3 v1 rfl rfl)
  obtain ⟨m1, hm1⟩ := h1
  obtain ⟨x1', e1, i1⟩ := open_int1 (cs := [.int .i64 x1]) (by simpa [Value.cells] using hm1)
  obtain rfl : x1 = x1' := by simpa using e1
  clear hm1 e1
  obtain ⟨x2, rfl⟩ := okWide_int Tryz.underlying3 (hval 2 3 v2 rfl rfl)
  obtain ⟨m2, hm2⟩ := h2
  obtain ⟨x2', e2, i2⟩ := open_int1 (cs := [.int .i64 x2]) (by simpa [Value.cells] using hm2)
  obtain rfl : x2 = x2' := by simpa using e2
  clear hm2 e2
  have hT := tabs_of_laid hL
  clear hA0 hval0
  refine (scs_walk s0 a0 n0 c0 x1 i1 x2 i2 W hT S0).mono fun e W' ⟨he, bel⟩ => ?_
  subst he
  exact ⟨_, rfl, _, _, _, [], _, [], hW', trodAll_mk1 (shut_bool Tryz.underlying4 _),
    (trodAll_cons_mk (Below.trod laidOut (by kernel_rfl) (of_decide_eq_true (by kernel_rfl)) k0' bel lt0) (trodAll_cons_mk (Below.trod laidOut (by kernel_rfl) (of_decide_eq_true (by kernel_rfl)) k1' bel lt1) (trodAll_cons_mk (Below.trod laidOut (by kernel_rfl) (of_decide_eq_true (by kernel_rfl)) k2' bel lt2) trodAll_mk0))), rfl, bel.frame _, fun h => by cases h⟩

theorem over : Rows.StoreCheckSpecSaid :=
  OpenClaim.holds_of_wide 3 Tryz.f3 rfl rfl rfl rfl rfl rfl rfl ⟨rfl, rfl, rfl, rfl, rfl⟩ rfl rfl rfl rfl rfl (by kernel_rfl) Tryz.func3 (by kernel_rfl)
    (of_decide_eq_true (by kernel_rfl)) (by unfold Func.isWrapper; first | (rw [if_pos (by decide +kernel)]; kernel_rfl) | (rw [if_neg (by decide +kernel)]; exact ⟨rfl, rfl⟩))
    (fun os started H enc _ => lifted os started H enc)

theorem proved : Rows.StoreCheckSpecCardSaid :=
  Claim7.holds_tied_plain_at .later [] [.data, .data] true (true, "0e71b2c2558acfe1f4ed3f440e2dab26401bb835ffca5b2d0e5c9d75e6479122") false
    over (fun _ h => by cases h) (by kernel_rfl) (fun _ h => by cases h) storeCheckSpec_row_tie rfl ⟨rfl, rfl⟩ (by kernel_rfl) rfl
    (fun f fn hf hfn => by
      obtain rfl : f = 3 := Option.some.inj ((show Tryz.prog.funcNamed "chartroom/chartroomlaw30.StoreCheckSpec" = some 3 by kernel_rfl).symm.trans hf) |>.symm
      obtain rfl : fn = Tryz.f3 := (Option.some.inj (Tryz.func3.symm.trans hfn)).symm
      exact ⟨by kernel_rfl, fun j t ht => by
        rw [Tryz.params3] at ht
        have hm : t ∈ [24, 3, 3] := by simpa using Array.mem_of_getElem? ht
        have hall : ([24, 3, 3].all fun u => !Tryz.prog.wantsStandIn u) = true := by kernel_rfl
        exact (show Tryz.prog.wantsStandIn t = false by simpa using List.all_eq_true.1 hall t hm)⟩)
    (by kernel_rfl)
#print axioms proved
end Go.Proofs.YtlpgjdlkjahdgaaGreatDoor.lawSCheckSpec

