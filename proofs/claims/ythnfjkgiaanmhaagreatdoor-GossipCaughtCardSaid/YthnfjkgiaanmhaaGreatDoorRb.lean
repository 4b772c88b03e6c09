/- directory.Verify -/
import Derived.Test.YthnfjkgiaanmhaaGreatDoorRa
import Derived.Test.YthnfjkgiaanmhaaGreatDoorDrQ
import Derived.Stop.RegionWithIn
import Derived.Sort.CutIn
import Derived.ControlIn
namespace Go.Dj
variable {P : Program} {F : Fence} {n : Nat}
theorem wpListIn_load_mid {ops : Array Oper} {rest : List Oper} {op : Oper} {a : Act} {w : World} {Q : Exit → Act → World → Prop} (hgd : op.guard = none) (ty : TypeId) (x : Operand) (ho : op.op = .load ty x)
    (b o : Nat) (hx : a.eval x = .pointer (some ⟨b, o, none⟩)) (cs : List Value) (d : TypeDesc) (hc : w.rangeAt b o cs)
    (hu : P.underlying ty = some d) (hd : d.isRow = true) (hi : (P.info? ty).map (·.size) = some cs.length)
    (h : wpListIn F n P ops Q rest (a.put op.dst (.agg cs.toArray)) w) : wpListIn F n P ops Q (op :: rest) a w := by
  refine wpListIn_plain hgd fun K hK' => ?_
  unfold Oper.wpIn
  refine ⟨?_, ?_⟩
  · simp [Oper.about, ho]
  · rw [Oper.semAt_plain F _ _ (by rw [ho]; intro c hc'; cases hc')]
    unfold execOp
    simp only [ho, hx, Instr.loadAt, Instr.sureAddr, Sem.run_bind, Sem.run_pure, Result.andThen_ok, run_loadVar_mid w b o ty cs d hc hu hd hi]
    exact hK' _ _ h
theorem wpListIn_store_mid {ops : Array Oper} {rest : List Oper} {op : Oper} {a : Act} {w : World} {Q : Exit → Act → World → Prop} (hgd : op.guard = none) (ty : TypeId) (x y : Operand) (ho : op.op = .store ty x y)
    (b o : Nat) (cells : Array Value) (hx : a.eval x = .pointer (some ⟨b, o, none⟩)) (hy : a.eval y = .agg cells)
    (ht : w.there b o cells.size) (hi : (P.info? ty).map (·.size) = some cells.size) (h1 : cells.all (·.oneCell') = true)
    (h : wpListIn F n P ops Q rest (a.put op.dst undef) (w.setCells b o cells.toList)) : wpListIn F n P ops Q (op :: rest) a w := by
  refine wpListIn_plain hgd fun K hK' => ?_
  unfold Oper.wpIn
  refine ⟨?_, ?_⟩
  · simp [Oper.about, ho]
  · rw [Oper.semAt_plain F _ _ (by rw [ho]; intro c hc'; cases hc')]
    unfold execOp
    simp only [ho, hx, hy, Instr.storeAt, Instr.sureAddr, Sem.run_bind, Sem.run_pure, Result.andThen_ok, run_storeVar_mid w b o ty cells ht hi h1]
    exact hK' _ _ h
end Go.Dj
namespace Go.Proofs.YthnfjkgiaanmhaaGreatDoor
open Go.RowKit Go.Mem Go.Shelf
open Go.Dr (Lst Rt)
attribute [local go_sem] Oper.semAt_some

/-- all blocks of a world are as they were. -/
structure Kp (w w' : World) : Prop where
  size : w.heap.size ≤ w'.heap.size
  block : ∀ i, i < w.heap.size → w'.heap[i]? = w.heap[i]?
section
variable {w w' w2 : World}
theorem Kp.refl (w : World) : Kp w w := ⟨Nat.le_refl _, fun _ _ => rfl⟩
theorem Kp.trans (h : Kp w w') (k : Kp w' w2) : Kp w w2 := ⟨Nat.le_trans h.size k.size, fun i hi => (k.block i (Nat.lt_of_lt_of_le hi h.size)).trans (h.block i hi)⟩
theorem Kp.of (h : Below w.heap.size w w') : Kp w w' := ⟨h.size, h.block⟩
theorem Kp.below (h : Kp w w') : Below w.heap.size w { w' with os := w.os, tape := w.tape, output := w.output } := ⟨rfl, rfl, rfl, h.size, h.block⟩
theorem Kp.cell (h : Kp w w') {p : Addr} (hb : p.block < w.heap.size) : w'.cell? p = w.cell? p := World.cell?_of_block (h.block p.block hb)
theorem Kp.grown {row : Option Nat} (h : Kp w w') (hg : w'.grownBy w2 row) (hr : ∀ r, row = some r → w.heap.size ≤ r) : Kp w w2 := ⟨Nat.le_trans h.size hg.size, fun i hi => (hg.block i (Nat.lt_of_lt_of_le hi h.size) (fun e => by have := hr i e.symm; omega)).trans (h.block i hi)⟩
theorem Tabs.kp (h : Tabs w) (k : Kp w w') : Tabs w' := by
  have := Tabs.below h k.below
  exact this
theorem DS.kp {a : Option Addr} {n c : Nat} {l : List (List Nat)} (h : DS w a n c l) (k : Kp w w') : DS w' a n c l :=
  ⟨h.len, h.le, h.max, h.nil, fun hn ad e => by
    obtain ⟨b, off, rfl, hlt, hx⟩ := h.cells hn ad e
    exact ⟨b, off, rfl, Nat.lt_of_lt_of_le hlt k.size, fun i x hi j v hv => (k.cell (p := ⟨b, _, none⟩) hlt).trans (hx i x hi j v hv)⟩, h.ok⟩
theorem Blk.kp {g : Nat} {t : TypeId} {cs : List Value} (h : Blk w g t cs) (k : Kp w w') : Blk w' g t cs := (k.block g h.lt).trans h
end

abbrev encD (x : Nat × List Nat) : Array Value := #[.int .i64 (x.1 : Int), .agg (bv x.2).toArray]
def ExD (x : Nat × List Nat) : Prop := x.1 < 1024 ∧ x.2.length = 32 ∧ ∀ u ∈ x.2, u < 256

end Go.Proofs.YthnfjkgiaanmhaaGreatDoor
namespace Go.Proofs.YthnfjkgiaanmhaaGreatDoor
open Go.RowKit Go.Mem
open Go.Dr (Lst Rt Dir)

def dirC (p : Int) (la : Option Addr) (ln lc : Nat) (ra : Option Addr) (rn rc : Nat) : List Value := [.int .i64 p, .slice la ln lc, .slice ra rn rc]
theorem sizeDr : (Tryz.prog.info? 27).map (·.size) = some 3 := by kernel_rfl
/-- what New hands back. -/
def NewPost (k : Int) (w : World) (e : Ending) (w' : World) : Prop := e = .returned (.tuple #[.agg (dirC (Go.Dr.newD k).1.priv none 0 0 none 0 0).toArray, .int .i64 (Go.Dr.newD k).2]) ∧ Below w.heap.size w w'
set_option maxHeartbeats 1000000 in
theorem dnew_any (k : Int) (w : World) : Calls Tryz.prog 20 #[.int .i64 k] w (NewPost k w) := by
  have hp := Lib.hid (private_any k)
  have hf : Hid (∀ W, Below w.heap.size w W → keyOk k = true → NewPost k w (.returned (.tuple #[.agg #[.int .i64 k, .slice none 0 0, .slice none 0 0], .int .i64 0])) W) := fun W h1 h2 => by
    refine ⟨?_, h1⟩; unfold Go.Dr.newD; rw [if_pos h2]; rfl
  have hf2 : Hid (∀ W, Below w.heap.size w W → keyOk k = false → NewPost k w (.returned (.tuple #[.agg #[.int .i64 0, .slice none 0 0, .slice none 0 0], .int .i64 50])) W) := fun W h1 h2 => by
    refine ⟨?_, h1⟩; unfold Go.Dr.newD; rw [if_neg (by rw [h2]; simp)]; rfl
  obtain ⟨X, hX⟩ : ∃ X, X = NewPost k w := ⟨_, rfl⟩
  rw [← hX] at hf hf2 ⊢
  clear hX
  cases hk : keyOk k with
  | true =>
    have hf3 := Lib.hid (fun W h => hf.out W h hk)
    rw [hk] at hp
    clear hf hf2
    go_enter Tryz.func20, Tryz.ntmps20
    go_wp2_with fail
    refine (hp.out _).mono ?_
    rintro e w1 ⟨rfl, rfl⟩
    go_wp2_with fail
    exact ret_cell_tmp (p := 2) (u := 3) rfl (Blk.new w 27 (dirC k none 0 0 none 0 0)) Tryz.underlying27 rfl sizeDr rfl rfl rfl (hf3.out _ ((Below.refl _ w).alloc (Nat.le_refl _) _))
  | false =>
    have hf3 := Lib.hid (fun W h => hf2.out W h hk)
    rw [hk] at hp
    clear hf hf2
    go_enter Tryz.func20, Tryz.ntmps20
    go_wp2_with fail
    refine (hp.out _).mono ?_
    rintro e w1 ⟨rfl, rfl⟩
    go_wp2_with fail
    exact ret_cell_tmp (p := 2) (u := 3) rfl (Blk.new w 27 (dirC 0 none 0 0 none 0 0)) Tryz.underlying27 rfl sizeDr rfl rfl rfl (hf3.out _ ((Below.refl _ w).alloc (Nat.le_refl _) _))

/-- what the walk of Signed keeps. -/
def SdW (w : World) (tb : Nat) (x : Rt) (wz : World) : Prop := Blk wz tb 40 (rC x) ∧ tb < wz.heap.size ∧ Below w.heap.size w wz
section
variable {w wz wq : World} {tb : Nat} {x : Rt}
theorem SdW.drew (h : SdW w tb x wz) : SdW w tb x wz.drew := ⟨h.1, h.2.1, h.2.2.drew⟩
theorem SdW.drewN (h : SdW w tb x wz) (m : Nat) : SdW w tb x (wz.drewN m) := ⟨h.1.drewN m, h.2.1, h.2.2.trans (below_drewN _ _ _)⟩
theorem SdW.next (hb : Below wz.heap.size wz wq) (h : SdW w tb x wz) : SdW w tb x wq := ⟨h.1.below hb h.2.1, Nat.lt_of_lt_of_le h.2.1 hb.size, h.2.2.trans (hb.mono h.2.2.size)⟩
end

set_option maxRecDepth 20000 in
set_option maxHeartbeats 8000000 in
theorem signed_any (pub : Int) (hp : I64 pub) (x : Rt) (hx : OkQ x) (w : World) (HT : Tabs w) :
    Calls Tryz.prog 48 #[.int .i64 pub, .agg (rC x).toArray] w (RetBo (Go.Dr.signedB 4 pub x) w) := by
  have HT' := Lib.hid HT; have hx' := Lib.hid hx; have hp' := Lib.hid hp
  clear HT
  obtain ⟨tb, htb⟩ : ∃ tb, Hid (w.heap.size = tb) := ⟨_, rfl⟩
  have z0 : (Tryz.prog.info? 40).map (·.size) = some (rC x).length := by rw [rC_length hx]; exact sizeR
  have hml : Hid ((Go.Dr.msgR x).length = 72) := by show _ = _; unfold Go.Dr.msgR Go.Dr.num8; simp [hx.dig, hx.prev, Sha.be_length]
  go_enter Tryz.func48, Tryz.ntmps48
  go_upto_region 1 with fail
  rw [htb.out]
  generalize hW : World.alloc _ _ = W
  have hM : SdW w tb x W := by
    rw [← hW, ← htb.out]
    exact ⟨Blk.new w _ (rC x), by simp, (Below.refl _ w).alloc (Nat.le_refl _) _⟩
  clear hW hx hp
  obtain ⟨V, hV⟩ : ∃ V, Hid (verB 4 pub (Go.Dr.msgR x) x.r x.s = V) := ⟨_, rfl⟩
  have hms := Lib.hid (fun W => message_any x hx'.out W)
  have c0q : Hid (∀ wz, SdW w tb x wz → wz.cell? ⟨tb, 0, none⟩ = some (.int .i64 x.no)) := fun wz h => h.1.at_ (i := 0) rfl
  by_cases h1 : 1 ≤ x.no
  · have h1' : decide (1 ≤ x.no) = true := by simpa using h1
    by_cases h2 : x.no ≤ 65536
    · have h2' : decide (x.no ≤ 65536) = true := by simpa using h2
      have hv : Hid (Go.Dr.signedB 4 pub x = V) := by show _ = _; unfold Go.Dr.signedB; rw [decide_eq_true ⟨h1, h2⟩, hV.out]; rfl
      refine wp_region_held_drew (S := fun wz => SdW w tb x wz) (by kernel_rfl) (hM.drew) (fun hHeld => ?_)
      generalize W.drew = W0 at *
      refine wpAnyH_take (i := 0) (oi := { dst := some 5, op := Op.fieldAddr 40 (Operand.tmp 3) 0, type := 0, pos := "directory.go:209", after := #[], guard := none }) (v := ?_) rfl (by kernel_rfl) (by kernel_rfl) (by kernel_rfl) (fun _ _ _ h => h) (Or.inl ⟨by rfl, ?_⟩) hHeld ?_
      rotate_left
      · intro wz hSw
        go_simp
        all_goals (with_reducible rfl)
      try simp only [Act.put, List.setIfInBounds_toArray, List.set_cons_zero, List.set_cons_succ]
      refine wpAnyH_take (i := 1) (oi := { dst := some 6, op := Op.load 3 (Operand.tmp 5), type := 3, pos := "directory.go:209", after := #[{ on := 0, ground := Ground.data }], guard := none }) (v := ?_) rfl (by kernel_rfl) (by kernel_rfl) (by kernel_rfl) (fun _ _ _ h => h) (Or.inl ⟨by rfl, ?_⟩) hHeld ?_
      rotate_left
      · intro wz hSw
        have q0 := c0q.out wz hSw
        go_simp
        all_goals (with_reducible rfl)
      try simp only [Act.put, List.setIfInBounds_toArray, List.set_cons_zero, List.set_cons_succ]
      refine wpAnyH_take (i := 2) (oi := { dst := some 7, op := Op.binOp BinOp.geq 3 (Operand.tmp 6) (Operand.const (Value.int IntKind.i64 1)) 3, type := 4, pos := "directory.go:209", after := #[{ on := 1, ground := Ground.data }], guard := none }) (v := ?_) rfl (by kernel_rfl) (by kernel_rfl) (by kernel_rfl) (fun _ _ _ h => h) (Or.inl ⟨by rfl, ?_⟩) hHeld ?_
      rotate_left
      · intro wz hSw
        go_simp
        all_goals (with_reducible rfl)
      try simp only [Act.put, List.setIfInBounds_toArray, List.set_cons_zero, List.set_cons_succ]
      refine wpAnyH_take (i := 3) (oi := { dst := some 8, op := Op.move (Operand.tmp 7), type := 4, pos := "directory.go:209", after := #[{ on := 2, ground := Ground.data }], guard := none }) (v := ?_) rfl (by kernel_rfl) (by kernel_rfl) (by kernel_rfl) (fun _ _ _ h => h) (Or.inl ⟨by rfl, ?_⟩) hHeld ?_
      rotate_left
      · intro wz hSw
        go_simp
        all_goals (with_reducible rfl)
      try simp only [Act.put, List.setIfInBounds_toArray, List.set_cons_zero, List.set_cons_succ]
      refine wpAnyH_take (i := 4) (oi := { dst := some 9, op := Op.fieldAddr 40 (Operand.tmp 3) 0, type := 0, pos := "directory.go:209", after := #[{ on := 3, ground := Ground.guard }], guard := some (3, true) }) (v := ?_) rfl (by kernel_rfl) (by kernel_rfl) (by kernel_rfl) (fun _ _ _ h => h) (Or.inl ⟨by rfl, ?_⟩) hHeld ?_
      rotate_left
      · intro wz hSw
        go_simp
        all_goals (with_reducible rfl)
      try simp only [Act.put, List.setIfInBounds_toArray, List.set_cons_zero, List.set_cons_succ]
      refine wpAnyH_take (i := 5) (oi := { dst := some 10, op := Op.load 3 (Operand.tmp 9), type := 3, pos := "directory.go:209", after := #[{ on := 4, ground := Ground.data }, { on := 3, ground := Ground.guard }], guard := some (3, true) }) (v := ?_) rfl (by kernel_rfl) (by kernel_rfl) (by kernel_rfl) (fun _ _ _ h => h) (Or.inl ⟨by rfl, ?_⟩) hHeld ?_
      rotate_left
      · intro wz hSw
        have q0 := c0q.out wz hSw
        go_simp
        all_goals (with_reducible rfl)
      try simp only [Act.put, List.setIfInBounds_toArray, List.set_cons_zero, List.set_cons_succ]
      refine wpAnyH_take (i := 6) (oi := { dst := some 11, op := Op.binOp BinOp.leq 3 (Operand.tmp 10) (Operand.const (Value.int IntKind.i64 65536)) 3, type := 4, pos := "directory.go:209", after := #[{ on := 5, ground := Ground.data }, { on := 3, ground := Ground.guard }], guard := some (3, true) }) (v := ?_) rfl (by kernel_rfl) (by kernel_rfl) (by kernel_rfl) (fun _ _ _ h => h) (Or.inl ⟨by rfl, ?_⟩) hHeld ?_
      rotate_left
      · intro wz hSw
        go_simp
        all_goals (with_reducible rfl)
      try simp only [Act.put, List.setIfInBounds_toArray, List.set_cons_zero, List.set_cons_succ]
      refine wpAnyH_take (i := 7) (oi := { dst := some 12, op := Op.pick (Operand.tmp 8) (Operand.tmp 11) (Operand.const (Value.bool false)), type := 4, pos := "directory.go:209", after := #[{ on := 3, ground := Ground.data }, { on := 6, ground := Ground.data }], guard := none }) (v := ?_) rfl (by kernel_rfl) (by kernel_rfl) (by kernel_rfl) (fun _ _ _ h => h) (Or.inl ⟨by rfl, ?_⟩) hHeld ?_
      rotate_left
      · intro wz hSw
        go_simp
        all_goals (with_reducible rfl)
      try simp only [Act.put, List.setIfInBounds_toArray, List.set_cons_zero, List.set_cons_succ]
      refine wpAnyH_take (i := 8) (oi := { dst := some 13, op := Op.move (Operand.tmp 12), type := 4, pos := "directory.go:209", after := #[{ on := 7, ground := Ground.data }, { on := 3, ground := Ground.chain }], guard := none }) (v := ?_) rfl (by kernel_rfl) (by kernel_rfl) (by kernel_rfl) (fun _ _ _ h => h) (Or.inl ⟨by rfl, ?_⟩) hHeld ?_
      rotate_left
      · intro wz hSw
        go_simp
        all_goals (with_reducible rfl)
      try simp only [Act.put, List.setIfInBounds_toArray, List.set_cons_zero, List.set_cons_succ]
      refine wpAnyH_take (i := 9) (oi := { dst := some 14, op := Op.move (Operand.tmp 0), type := 3, pos := "directory.go:209", after := #[{ on := 8, ground := Ground.guard }], guard := some (8, true) }) (v := ?_) rfl (by kernel_rfl) (by kernel_rfl) (by kernel_rfl) (fun _ _ _ h => h) (Or.inl ⟨by rfl, ?_⟩) hHeld ?_
      rotate_left
      · intro wz hSw
        go_simp
        all_goals (with_reducible rfl)
      try simp only [Act.put, List.setIfInBounds_toArray, List.set_cons_zero, List.set_cons_succ]
      refine wpAnyH_take (i := 10) (oi := { dst := some 15, op := Op.load 40 (Operand.tmp 3), type := 40, pos := "directory.go:209", after := #[{ on := 8, ground := Ground.guard }], guard := some (8, true) }) rfl (by kernel_rfl) (by kernel_rfl) (by kernel_rfl) (fun _ _ _ h => h) (yieldsIf_load_mid (by rfl) _ _ rfl tb 0 rfl (rC x) _ (fun wz h => h.1.range) Tryz.underlying40 rfl (z0)) hHeld ?_
      try simp only [Act.put, List.setIfInBounds_toArray, List.set_cons_zero, List.set_cons_succ]
      refine wpAnyH_take (i := 15) (oi := { dst := some 20, op := Op.fieldAddr 40 (Operand.tmp 3) 3, type := 0, pos := "directory.go:209", after := #[{ on := 8, ground := Ground.guard }], guard := some (8, true) }) (v := ?_) rfl (by kernel_rfl) (by kernel_rfl) (by kernel_rfl) (fun _ _ _ h => h) (Or.inl ⟨by rfl, ?_⟩) hHeld ?_
      rotate_left
      · intro wz hSw
        go_simp
        all_goals (with_reducible rfl)
      try simp only [Act.put, List.setIfInBounds_toArray, List.set_cons_zero, List.set_cons_succ]
      refine wpAnyH_take (i := 16) (oi := { dst := some 21, op := Op.load 38 (Operand.tmp 20), type := 38, pos := "directory.go:209", after := #[{ on := 15, ground := Ground.data }, { on := 8, ground := Ground.guard }], guard := some (8, true) }) (v := ?_) rfl (by kernel_rfl) (by kernel_rfl) (by kernel_rfl) (fun _ _ _ h => h) (Or.inl ⟨by rfl, ?_⟩) hHeld ?_
      rotate_left
      · intro wz hSw
        have q0 := hSw.1.at_ (rC_r hx'.out)
        have q1 := hSw.1.at_ (rC_s hx'.out)
        go_simp
        all_goals (with_reducible rfl)
      try simp only [Act.put, List.setIfInBounds_toArray, List.set_cons_zero, List.set_cons_succ]
      refine wpAnyH_ready (rs := [11]) (by kernel_rfl) (by simp) ?_
      refine AllReadyH.cons (o := { dst := some 16, op := Op.call { callee := Callee.value (Operand.func 45), args := #[Operand.tmp 15], argTypes := #[40] }, type := 91, pos := "directory.go:209", after := #[{ on := 10, ground := Ground.data }, { on := 8, ground := Ground.chain }, { on := 8, ground := Ground.guard }], guard := some (8, true) }) rfl (fun K hK => ?_) AllReadyH.nil
      rw [if_pos (by rfl)]
      show Oper.wp _ _ _ _ K _
      go_simp
      go_at_call 45
      refine (hms.out W0).mono ?_
      rintro e W1 ⟨b, rfl, hbW, I1, hst⟩
      refine hK.out _ _ (hHeld.next hst) (fun hHeld2 => ?_)
      clear hHeld
      have hHeld := hHeld2
      clear hHeld2
      clear hK K
      try simp only [Act.put, List.setIfInBounds_toArray, List.set_cons_zero, List.set_cons_succ]
      refine wpAnyH_take (i := 12) (oi := { dst := some 17, op := Op.nilCheck (Operand.tmp 16), type := 0, pos := "directory.go:209", after := #[{ on := 11, ground := Ground.data }, { on := 8, ground := Ground.guard }], guard := some (8, true) }) (v := ?_) rfl (by kernel_rfl) (by kernel_rfl) (by kernel_rfl) (fun _ _ _ h => h) (Or.inl ⟨by rfl, ?_⟩) hHeld ?_
      rotate_left
      · intro wz hSw
        go_simp
        all_goals (with_reducible rfl)
      try simp only [Act.put, List.setIfInBounds_toArray, List.set_cons_zero, List.set_cons_succ]
      refine wpAnyH_take (i := 13) (oi := { dst := some 18, op := Op.fieldAddr 99 (Operand.tmp 17) 0, type := 0, pos := "directory.go:209", after := #[{ on := 12, ground := Ground.data }, { on := 8, ground := Ground.guard }], guard := some (8, true) }) (v := ?_) rfl (by kernel_rfl) (by kernel_rfl) (by kernel_rfl) (fun _ _ _ h => h) (Or.inl ⟨by rfl, ?_⟩) hHeld ?_
      rotate_left
      · intro wz hSw
        go_simp
        all_goals (with_reducible rfl)
      try simp only [Act.put, List.setIfInBounds_toArray, List.set_cons_zero, List.set_cons_succ]
      refine wpAnyH_ready (rs := [14]) (by kernel_rfl) (by simp) ?_
      refine AllReadyH.cons (o := { dst := some 19, op := Op.call { callee := Callee.value (Operand.func 46), args := #[Operand.tmp 18], argTypes := #[97] }, type := 23, pos := "directory.go:209", after := #[{ on := 13, ground := Ground.data }, { on := 11, ground := Ground.chain }, { on := 8, ground := Ground.guard }], guard := some (8, true) }) rfl (fun K hK => ?_) AllReadyH.nil
      rw [if_pos (by rfl)]
      show Oper.wp _ _ _ _ K _
      go_simp
      go_at_call 46
      refine (bytesOf_any _ b _ W1 I1).mono ?_
      rintro e W2 ⟨a2, c2, rfl, hS2, m, rfl⟩
      have hS3 := Lib.hid hS2
      refine hK.out _ _ (hHeld.drewN m) (fun hHeld2 => ?_)
      clear hHeld hS2
      have hHeld := hHeld2
      clear hHeld2
      generalize W1.drewN m = W3 at *
      rw [hml.out]
      clear hK K
      try simp only [Act.put, List.setIfInBounds_toArray, List.set_cons_zero, List.set_cons_succ]
      refine wpAnyH_ready (rs := [17]) (by kernel_rfl) (by simp) ?_
      refine AllReadyH.cons (o := { dst := some 22, op := Op.call { callee := Callee.value (Operand.func 67), args := #[Operand.tmp 14, Operand.tmp 19, Operand.tmp 21], argTypes := #[3, 23, 38] }, type := 4, pos := "directory.go:209", after := #[{ on := 9, ground := Ground.data }, { on := 14, ground := Ground.data }, { on := 16, ground := Ground.data }, { on := 14, ground := Ground.chain }, { on := 8, ground := Ground.guard }], guard := some (8, true) }) rfl (fun K hK => ?_) AllReadyH.nil
      rw [if_pos (by rfl)]
      show Oper.wp _ _ _ _ K _
      go_simp
      go_at_call 67
      refine (Verify_any pub x.r x.s hp'.out hx'.out.r a2 72 c2 (Go.Dr.msgR x) W3 (HT'.out.below hHeld.2.2) (by have := hS3.out; rwa [hml.out] at this) (by omega)).mono ?_
      rintro e W4 ⟨rfl, hst2⟩
      refine hK.out _ _ (hHeld.next hst2) (fun hHeld2 => ?_)
      clear hHeld
      have hHeld := hHeld2
      clear hHeld2
      rw [hV.out]
      clear hK K
      try simp only [Act.put, List.setIfInBounds_toArray, List.set_cons_zero, List.set_cons_succ]
      refine wpAnyH_take (i := 18) (oi := { dst := some 23, op := Op.pick (Operand.tmp 13) (Operand.tmp 22) (Operand.const (Value.bool false)), type := 4, pos := "directory.go:209", after := #[{ on := 8, ground := Ground.data }, { on := 17, ground := Ground.data }], guard := none }) (v := ?_) rfl (by kernel_rfl) (by kernel_rfl) (by kernel_rfl) (fun _ _ _ h => h) (Or.inl ⟨by rfl, ?_⟩) hHeld ?_
      rotate_left
      · intro wz hSw
        go_simp
        all_goals (with_reducible rfl)
      try simp only [Act.put, List.setIfInBounds_toArray, List.set_cons_zero, List.set_cons_succ]
      refine wpAnyH_take (i := 19) (oi := { dst := some 4, op := Op.assign (Operand.tmp 23), type := 4, pos := "directory.go:209", after := #[{ on := 18, ground := Ground.data }, { on := 17, ground := Ground.chain }, { on := 0, ground := Ground.phase }, { on := 1, ground := Ground.phase }, { on := 2, ground := Ground.phase }, { on := 3, ground := Ground.phase }, { on := 4, ground := Ground.phase }, { on := 5, ground := Ground.phase }, { on := 6, ground := Ground.phase }, { on := 7, ground := Ground.phase }, { on := 8, ground := Ground.phase }, { on := 9, ground := Ground.phase }, { on := 10, ground := Ground.phase }, { on := 11, ground := Ground.phase }, { on := 12, ground := Ground.phase }, { on := 13, ground := Ground.phase }, { on := 14, ground := Ground.phase }, { on := 15, ground := Ground.phase }, { on := 16, ground := Ground.phase }, { on := 17, ground := Ground.phase }, { on := 18, ground := Ground.phase }], guard := none }) (v := ?_) rfl (by kernel_rfl) (by kernel_rfl) (by kernel_rfl) (fun _ _ _ h => h) (Or.inl ⟨by rfl, ?_⟩) hHeld ?_
      rotate_left
      · intro wz hSw
        go_simp
        all_goals (with_reducible rfl)
      try simp only [Act.put, List.setIfInBounds_toArray, List.set_cons_zero, List.set_cons_succ]
      refine wpAnyH_done (by kernel_rfl) ?_ _
      go_wp2_with fail
      go_ret
      exact ⟨by rw [hv.out]; rfl, hHeld.2.2⟩
    · have h2' : decide (x.no ≤ 65536) = false := by simpa using h2
      have hv : Hid (Go.Dr.signedB 4 pub x = false) := by show _ = _; unfold Go.Dr.signedB; rw [decide_eq_false (fun h => h2 h.2)]; rfl
      refine wp_region_held_drew (S := fun wz => SdW w tb x wz) (by kernel_rfl) (hM.drew) (fun hHeld => ?_)
      generalize W.drew = W0 at *
      refine wpAnyH_take (i := 0) (oi := { dst := some 5, op := Op.fieldAddr 40 (Operand.tmp 3) 0, type := 0, pos := "directory.go:209", after := #[], guard := none }) (v := ?_) rfl (by kernel_rfl) (by kernel_rfl) (by kernel_rfl) (fun _ _ _ h => h) (Or.inl ⟨by rfl, ?_⟩) hHeld ?_
      rotate_left
      · intro wz hSw
        go_simp
        all_goals (with_reducible rfl)
      try simp only [Act.put, List.setIfInBounds_toArray, List.set_cons_zero, List.set_cons_succ]
      refine wpAnyH_take (i := 1) (oi := { dst := some 6, op := Op.load 3 (Operand.tmp 5), type := 3, pos := "directory.go:209", after := #[{ on := 0, ground := Ground.data }], guard := none }) (v := ?_) rfl (by kernel_rfl) (by kernel_rfl) (by kernel_rfl) (fun _ _ _ h => h) (Or.inl ⟨by rfl, ?_⟩) hHeld ?_
      rotate_left
      · intro wz hSw
        have q0 := c0q.out wz hSw
        go_simp
        all_goals (with_reducible rfl)
      try simp only [Act.put, List.setIfInBounds_toArray, List.set_cons_zero, List.set_cons_succ]
      refine wpAnyH_take (i := 2) (oi := { dst := some 7, op := Op.binOp BinOp.geq 3 (Operand.tmp 6) (Operand.const (Value.int IntKind.i64 1)) 3, type := 4, pos := "directory.go:209", after := #[{ on := 1, ground := Ground.data }], guard := none }) (v := ?_) rfl (by kernel_rfl) (by kernel_rfl) (by kernel_rfl) (fun _ _ _ h => h) (Or.inl ⟨by rfl, ?_⟩) hHeld ?_
      rotate_left
      · intro wz hSw
        go_simp
        all_goals (with_reducible rfl)
      try simp only [Act.put, List.setIfInBounds_toArray, List.set_cons_zero, List.set_cons_succ]
      refine wpAnyH_take (i := 3) (oi := { dst := some 8, op := Op.move (Operand.tmp 7), type := 4, pos := "directory.go:209", after := #[{ on := 2, ground := Ground.data }], guard := none }) (v := ?_) rfl (by kernel_rfl) (by kernel_rfl) (by kernel_rfl) (fun _ _ _ h => h) (Or.inl ⟨by rfl, ?_⟩) hHeld ?_
      rotate_left
      · intro wz hSw
        go_simp
        all_goals (with_reducible rfl)
      try simp only [Act.put, List.setIfInBounds_toArray, List.set_cons_zero, List.set_cons_succ]
      refine wpAnyH_take (i := 4) (oi := { dst := some 9, op := Op.fieldAddr 40 (Operand.tmp 3) 0, type := 0, pos := "directory.go:209", after := #[{ on := 3, ground := Ground.guard }], guard := some (3, true) }) (v := ?_) rfl (by kernel_rfl) (by kernel_rfl) (by kernel_rfl) (fun _ _ _ h => h) (Or.inl ⟨by rfl, ?_⟩) hHeld ?_
      rotate_left
      · intro wz hSw
        go_simp
        all_goals (with_reducible rfl)
      try simp only [Act.put, List.setIfInBounds_toArray, List.set_cons_zero, List.set_cons_succ]
      refine wpAnyH_take (i := 5) (oi := { dst := some 10, op := Op.load 3 (Operand.tmp 9), type := 3, pos := "directory.go:209", after := #[{ on := 4, ground := Ground.data }, { on := 3, ground := Ground.guard }], guard := some (3, true) }) (v := ?_) rfl (by kernel_rfl) (by kernel_rfl) (by kernel_rfl) (fun _ _ _ h => h) (Or.inl ⟨by rfl, ?_⟩) hHeld ?_
      rotate_left
      · intro wz hSw
        have q0 := c0q.out wz hSw
        go_simp
        all_goals (with_reducible rfl)
      try simp only [Act.put, List.setIfInBounds_toArray, List.set_cons_zero, List.set_cons_succ]
      refine wpAnyH_take (i := 6) (oi := { dst := some 11, op := Op.binOp BinOp.leq 3 (Operand.tmp 10) (Operand.const (Value.int IntKind.i64 65536)) 3, type := 4, pos := "directory.go:209", after := #[{ on := 5, ground := Ground.data }, { on := 3, ground := Ground.guard }], guard := some (3, true) }) (v := ?_) rfl (by kernel_rfl) (by kernel_rfl) (by kernel_rfl) (fun _ _ _ h => h) (Or.inl ⟨by rfl, ?_⟩) hHeld ?_
      rotate_left
      · intro wz hSw
        go_simp
        all_goals (with_reducible rfl)
      try simp only [Act.put, List.setIfInBounds_toArray, List.set_cons_zero, List.set_cons_succ]
      refine wpAnyH_take (i := 7) (oi := { dst := some 12, op := Op.pick (Operand.tmp 8) (Operand.tmp 11) (Operand.const (Value.bool false)), type := 4, pos := "directory.go:209", after := #[{ on := 3, ground := Ground.data }, { on := 6, ground := Ground.data }], guard := none }) (v := ?_) rfl (by kernel_rfl) (by kernel_rfl) (by kernel_rfl) (fun _ _ _ h => h) (Or.inl ⟨by rfl, ?_⟩) hHeld ?_
      rotate_left
      · intro wz hSw
        go_simp
        all_goals (with_reducible rfl)
      try simp only [Act.put, List.setIfInBounds_toArray, List.set_cons_zero, List.set_cons_succ]
      refine wpAnyH_take (i := 8) (oi := { dst := some 13, op := Op.move (Operand.tmp 12), type := 4, pos := "directory.go:209", after := #[{ on := 7, ground := Ground.data }, { on := 3, ground := Ground.chain }], guard := none }) (v := ?_) rfl (by kernel_rfl) (by kernel_rfl) (by kernel_rfl) (fun _ _ _ h => h) (Or.inl ⟨by rfl, ?_⟩) hHeld ?_
      rotate_left
      · intro wz hSw
        go_simp
        all_goals (with_reducible rfl)
      try simp only [Act.put, List.setIfInBounds_toArray, List.set_cons_zero, List.set_cons_succ]
      refine wpAnyH_take (i := 9) (oi := { dst := some 14, op := Op.move (Operand.tmp 0), type := 3, pos := "directory.go:209", after := #[{ on := 8, ground := Ground.guard }], guard := some (8, true) }) (v := undef) rfl (by kernel_rfl) (by kernel_rfl) (by kernel_rfl) (fun _ _ _ h => h) (Or.inr ⟨by rfl, rfl⟩) hHeld ?_
      try simp only [Act.put, List.setIfInBounds_toArray, List.set_cons_zero, List.set_cons_succ]
      refine wpAnyH_take (i := 10) (oi := { dst := some 15, op := Op.load 40 (Operand.tmp 3), type := 40, pos := "directory.go:209", after := #[{ on := 8, ground := Ground.guard }], guard := some (8, true) }) (v := undef) rfl (by kernel_rfl) (by kernel_rfl) (by kernel_rfl) (fun _ _ _ h => h) (Or.inr ⟨by rfl, rfl⟩) hHeld ?_
      try simp only [Act.put, List.setIfInBounds_toArray, List.set_cons_zero, List.set_cons_succ]
      refine wpAnyH_take (i := 15) (oi := { dst := some 20, op := Op.fieldAddr 40 (Operand.tmp 3) 3, type := 0, pos := "directory.go:209", after := #[{ on := 8, ground := Ground.guard }], guard := some (8, true) }) (v := undef) rfl (by kernel_rfl) (by kernel_rfl) (by kernel_rfl) (fun _ _ _ h => h) (Or.inr ⟨by rfl, rfl⟩) hHeld ?_
      try simp only [Act.put, List.setIfInBounds_toArray, List.set_cons_zero, List.set_cons_succ]
      refine wpAnyH_take (i := 16) (oi := { dst := some 21, op := Op.load 38 (Operand.tmp 20), type := 38, pos := "directory.go:209", after := #[{ on := 15, ground := Ground.data }, { on := 8, ground := Ground.guard }], guard := some (8, true) }) (v := undef) rfl (by kernel_rfl) (by kernel_rfl) (by kernel_rfl) (fun _ _ _ h => h) (Or.inr ⟨by rfl, rfl⟩) hHeld ?_
      try simp only [Act.put, List.setIfInBounds_toArray, List.set_cons_zero, List.set_cons_succ]
      refine wpAnyH_ready (rs := [11]) (by kernel_rfl) (by simp) ?_
      refine AllReadyH.cons (o := { dst := some 16, op := Op.call { callee := Callee.value (Operand.func 45), args := #[Operand.tmp 15], argTypes := #[40] }, type := 91, pos := "directory.go:209", after := #[{ on := 10, ground := Ground.data }, { on := 8, ground := Ground.chain }, { on := 8, ground := Ground.guard }], guard := some (8, true) }) rfl (fun K hK => ?_) AllReadyH.nil
      rw [if_neg (Bool.eq_false_iff.1 (by rfl))]
      refine hK.out _ _ hHeld (fun hHeld => ?_)
      clear hK K
      try simp only [Act.put, List.setIfInBounds_toArray, List.set_cons_zero, List.set_cons_succ]
      refine wpAnyH_take (i := 12) (oi := { dst := some 17, op := Op.nilCheck (Operand.tmp 16), type := 0, pos := "directory.go:209", after := #[{ on := 11, ground := Ground.data }, { on := 8, ground := Ground.guard }], guard := some (8, true) }) (v := undef) rfl (by kernel_rfl) (by kernel_rfl) (by kernel_rfl) (fun _ _ _ h => h) (Or.inr ⟨by rfl, rfl⟩) hHeld ?_
      try simp only [Act.put, List.setIfInBounds_toArray, List.set_cons_zero, List.set_cons_succ]
      refine wpAnyH_take (i := 13) (oi := { dst := some 18, op := Op.fieldAddr 99 (Operand.tmp 17) 0, type := 0, pos := "directory.go:209", after := #[{ on := 12, ground := Ground.data }, { on := 8, ground := Ground.guard }], guard := some (8, true) }) (v := undef) rfl (by kernel_rfl) (by kernel_rfl) (by kernel_rfl) (fun _ _ _ h => h) (Or.inr ⟨by rfl, rfl⟩) hHeld ?_
      try simp only [Act.put, List.setIfInBounds_toArray, List.set_cons_zero, List.set_cons_succ]
      refine wpAnyH_ready (rs := [14]) (by kernel_rfl) (by simp) ?_
      refine AllReadyH.cons (o := { dst := some 19, op := Op.call { callee := Callee.value (Operand.func 46), args := #[Operand.tmp 18], argTypes := #[97] }, type := 23, pos := "directory.go:209", after := #[{ on := 13, ground := Ground.data }, { on := 11, ground := Ground.chain }, { on := 8, ground := Ground.guard }], guard := some (8, true) }) rfl (fun K hK => ?_) AllReadyH.nil
      rw [if_neg (Bool.eq_false_iff.1 (by rfl))]
      refine hK.out _ _ hHeld (fun hHeld => ?_)
      clear hK K
      try simp only [Act.put, List.setIfInBounds_toArray, List.set_cons_zero, List.set_cons_succ]
      refine wpAnyH_ready (rs := [17]) (by kernel_rfl) (by simp) ?_
      refine AllReadyH.cons (o := { dst := some 22, op := Op.call { callee := Callee.value (Operand.func 67), args := #[Operand.tmp 14, Operand.tmp 19, Operand.tmp 21], argTypes := #[3, 23, 38] }, type := 4, pos := "directory.go:209", after := #[{ on := 9, ground := Ground.data }, { on := 14, ground := Ground.data }, { on := 16, ground := Ground.data }, { on := 14, ground := Ground.chain }, { on := 8, ground := Ground.guard }], guard := some (8, true) }) rfl (fun K hK => ?_) AllReadyH.nil
      rw [if_neg (Bool.eq_false_iff.1 (by rfl))]
      refine hK.out _ _ hHeld (fun hHeld => ?_)
      clear hK K
      try simp only [Act.put, List.setIfInBounds_toArray, List.set_cons_zero, List.set_cons_succ]
      refine wpAnyH_take (i := 18) (oi := { dst := some 23, op := Op.pick (Operand.tmp 13) (Operand.tmp 22) (Operand.const (Value.bool false)), type := 4, pos := "directory.go:209", after := #[{ on := 8, ground := Ground.data }, { on := 17, ground := Ground.data }], guard := none }) (v := ?_) rfl (by kernel_rfl) (by kernel_rfl) (by kernel_rfl) (fun _ _ _ h => h) (Or.inl ⟨by rfl, ?_⟩) hHeld ?_
      rotate_left
      · intro wz hSw
        go_simp
        all_goals (with_reducible rfl)
      try simp only [Act.put, List.setIfInBounds_toArray, List.set_cons_zero, List.set_cons_succ]
      refine wpAnyH_take (i := 19) (oi := { dst := some 4, op := Op.assign (Operand.tmp 23), type := 4, pos := "directory.go:209", after := #[{ on := 18, ground := Ground.data }, { on := 17, ground := Ground.chain }, { on := 0, ground := Ground.phase }, { on := 1, ground := Ground.phase }, { on := 2, ground := Ground.phase }, { on := 3, ground := Ground.phase }, { on := 4, ground := Ground.phase }, { on := 5, ground := Ground.phase }, { on := 6, ground := Ground.phase }, { on := 7, ground := Ground.phase }, { on := 8, ground := Ground.phase }, { on := 9, ground := Ground.phase }, { on := 10, ground := Ground.phase }, { on := 11, ground := Ground.phase }, { on := 12, ground := Ground.phase }, { on := 13, ground := Ground.phase }, { on := 14, ground := Ground.phase }, { on := 15, ground := Ground.phase }, { on := 16, ground := Ground.phase }, { on := 17, ground := Ground.phase }, { on := 18, ground := Ground.phase }], guard := none }) (v := ?_) rfl (by kernel_rfl) (by kernel_rfl) (by kernel_rfl) (fun _ _ _ h => h) (Or.inl ⟨by rfl, ?_⟩) hHeld ?_
      rotate_left
      · intro wz hSw
        go_simp
        all_goals (with_reducible rfl)
      try simp only [Act.put, List.setIfInBounds_toArray, List.set_cons_zero, List.set_cons_succ]
      refine wpAnyH_done (by kernel_rfl) ?_ _
      go_wp2_with fail
      go_ret
      exact ⟨by rw [hv.out]; rfl, hHeld.2.2⟩
  · have h1' : decide (1 ≤ x.no) = false := by simpa using h1
    have hv : Hid (Go.Dr.signedB 4 pub x = false) := by show _ = _; unfold Go.Dr.signedB; rw [decide_eq_false (fun h => h1 h.1)]; rfl
    refine wp_region_held_drew (S := fun wz => SdW w tb x wz) (by kernel_rfl) (hM.drew) (fun hHeld => ?_)
    generalize W.drew = W0 at *
    refine wpAnyH_take (i := 0) (oi := { dst := some 5, op := Op.fieldAddr 40 (Operand.tmp 3) 0, type := 0, pos := "directory.go:209", after := #[], guard := none }) (v := ?_) rfl (by kernel_rfl) (by kernel_rfl) (by kernel_rfl) (fun _ _ _ h => h) (Or.inl ⟨by rfl, ?_⟩) hHeld ?_
    rotate_left
    · intro wz hSw
      go_simp
      all_goals (with_reducible rfl)
    try simp only [Act.put, List.setIfInBounds_toArray, List.set_cons_zero, List.set_cons_succ]
    refine wpAnyH_take (i := 1) (oi := { dst := some 6, op := Op.load 3 (Operand.tmp 5), type := 3, pos := "directory.go:209", after := #[{ on := 0, ground := Ground.data }], guard := none }) (v := ?_) rfl (by kernel_rfl) (by kernel_rfl) (by kernel_rfl) (fun _ _ _ h => h) (Or.inl ⟨by rfl, ?_⟩) hHeld ?_
    rotate_left
    · intro wz hSw
      have q0 := c0q.out wz hSw
      go_simp
      all_goals (with_reducible rfl)
    try simp only [Act.put, List.setIfInBounds_toArray, List.set_cons_zero, List.set_cons_succ]
    refine wpAnyH_take (i := 2) (oi := { dst := some 7, op := Op.binOp BinOp.geq 3 (Operand.tmp 6) (Operand.const (Value.int IntKind.i64 1)) 3, type := 4, pos := "directory.go:209", after := #[{ on := 1, ground := Ground.data }], guard := none }) (v := ?_) rfl (by kernel_rfl) (by kernel_rfl) (by kernel_rfl) (fun _ _ _ h => h) (Or.inl ⟨by rfl, ?_⟩) hHeld ?_
    rotate_left
    · intro wz hSw
      go_simp
      all_goals (with_reducible rfl)
    try simp only [Act.put, List.setIfInBounds_toArray, List.set_cons_zero, List.set_cons_succ]
    refine wpAnyH_take (i := 3) (oi := { dst := some 8, op := Op.move (Operand.tmp 7), type := 4, pos := "directory.go:209", after := #[{ on := 2, ground := Ground.data }], guard := none }) (v := ?_) rfl (by kernel_rfl) (by kernel_rfl) (by kernel_rfl) (fun _ _ _ h => h) (Or.inl ⟨by rfl, ?_⟩) hHeld ?_
    rotate_left
    · intro wz hSw
      go_simp
      all_goals (with_reducible rfl)
    try simp only [Act.put, List.setIfInBounds_toArray, List.set_cons_zero, List.set_cons_succ]
    refine wpAnyH_take (i := 4) (oi := { dst := some 9, op := Op.fieldAddr 40 (Operand.tmp 3) 0, type := 0, pos := "directory.go:209", after := #[{ on := 3, ground := Ground.guard }], guard := some (3, true) }) (v := undef) rfl (by kernel_rfl) (by kernel_rfl) (by kernel_rfl) (fun _ _ _ h => h) (Or.inr ⟨by rfl, rfl⟩) hHeld ?_
    try simp only [Act.put, List.setIfInBounds_toArray, List.set_cons_zero, List.set_cons_succ]
    refine wpAnyH_take (i := 5) (oi := { dst := some 10, op := Op.load 3 (Operand.tmp 9), type := 3, pos := "directory.go:209", after := #[{ on := 4, ground := Ground.data }, { on := 3, ground := Ground.guard }], guard := some (3, true) }) (v := undef) rfl (by kernel_rfl) (by kernel_rfl) (by kernel_rfl) (fun _ _ _ h => h) (Or.inr ⟨by rfl, rfl⟩) hHeld ?_
    try simp only [Act.put, List.setIfInBounds_toArray, List.set_cons_zero, List.set_cons_succ]
    refine wpAnyH_take (i := 6) (oi := { dst := some 11, op := Op.binOp BinOp.leq 3 (Operand.tmp 10) (Operand.const (Value.int IntKind.i64 65536)) 3, type := 4, pos := "directory.go:209", after := #[{ on := 5, ground := Ground.data }, { on := 3, ground := Ground.guard }], guard := some (3, true) }) (v := undef) rfl (by kernel_rfl) (by kernel_rfl) (by kernel_rfl) (fun _ _ _ h => h) (Or.inr ⟨by rfl, rfl⟩) hHeld ?_
    try simp only [Act.put, List.setIfInBounds_toArray, List.set_cons_zero, List.set_cons_succ]
    refine wpAnyH_take (i := 7) (oi := { dst := some 12, op := Op.pick (Operand.tmp 8) (Operand.tmp 11) (Operand.const (Value.bool false)), type := 4, pos := "directory.go:209", after := #[{ on := 3, ground := Ground.data }, { on := 6, ground := Ground.data }], guard := none }) (v := ?_) rfl (by kernel_rfl) (by kernel_rfl) (by kernel_rfl) (fun _ _ _ h => h) (Or.inl ⟨by rfl, ?_⟩) hHeld ?_
    rotate_left
    · intro wz hSw
      go_simp
      all_goals (with_reducible rfl)
    try simp only [Act.put, List.setIfInBounds_toArray, List.set_cons_zero, List.set_cons_succ]
    refine wpAnyH_take (i := 8) (oi := { dst := some 13, op := Op.move (Operand.tmp 12), type := 4, pos := "directory.go:209", after := #[{ on := 7, ground := Ground.data }, { on := 3, ground := Ground.chain }], guard := none }) (v := ?_) rfl (by kernel_rfl) (by kernel_rfl) (by kernel_rfl) (fun _ _ _ h => h) (Or.inl ⟨by rfl, ?_⟩) hHeld ?_
    rotate_left
    · intro wz hSw
      go_simp
      all_goals (with_reducible rfl)
    try simp only [Act.put, List.setIfInBounds_toArray, List.set_cons_zero, List.set_cons_succ]
    refine wpAnyH_take (i := 9) (oi := { dst := some 14, op := Op.move (Operand.tmp 0), type := 3, pos := "directory.go:209", after := #[{ on := 8, ground := Ground.guard }], guard := some (8, true) }) (v := undef) rfl (by kernel_rfl) (by kernel_rfl) (by kernel_rfl) (fun _ _ _ h => h) (Or.inr ⟨by rfl, rfl⟩) hHeld ?_
    try simp only [Act.put, List.setIfInBounds_toArray, List.set_cons_zero, List.set_cons_succ]
    refine wpAnyH_take (i := 10) (oi := { dst := some 15, op := Op.load 40 (Operand.tmp 3), type := 40, pos := "directory.go:209", after := #[{ on := 8, ground := Ground.guard }], guard := some (8, true) }) (v := undef) rfl (by kernel_rfl) (by kernel_rfl) (by kernel_rfl) (fun _ _ _ h => h) (Or.inr ⟨by rfl, rfl⟩) hHeld ?_
    try simp only [Act.put, List.setIfInBounds_toArray, List.set_cons_zero, List.set_cons_succ]
    refine wpAnyH_take (i := 15) (oi := { dst := some 20, op := Op.fieldAddr 40 (Operand.tmp 3) 3, type := 0, pos := "directory.go:209", after := #[{ on := 8, ground := Ground.guard }], guard := some (8, true) }) (v := undef) rfl (by kernel_rfl) (by kernel_rfl) (by kernel_rfl) (fun _ _ _ h => h) (Or.inr ⟨by rfl, rfl⟩) hHeld ?_
    try simp only [Act.put, List.setIfInBounds_toArray, List.set_cons_zero, List.set_cons_succ]
    refine wpAnyH_take (i := 16) (oi := { dst := some 21, op := Op.load 38 (Operand.tmp 20), type := 38, pos := "directory.go:209", after := #[{ on := 15, ground := Ground.data }, { on := 8, ground := Ground.guard }], guard := some (8, true) }) (v := undef) rfl (by kernel_rfl) (by kernel_rfl) (by kernel_rfl) (fun _ _ _ h => h) (Or.inr ⟨by rfl, rfl⟩) hHeld ?_
    try simp only [Act.put, List.setIfInBounds_toArray, List.set_cons_zero, List.set_cons_succ]
    refine wpAnyH_ready (rs := [11]) (by kernel_rfl) (by simp) ?_
    refine AllReadyH.cons (o := { dst := some 16, op := Op.call { callee := Callee.value (Operand.func 45), args := #[Operand.tmp 15], argTypes := #[40] }, type := 91, pos := "directory.go:209", after := #[{ on := 10, ground := Ground.data }, { on := 8, ground := Ground.chain }, { on := 8, ground := Ground.guard }], guard := some (8, true) }) rfl (fun K hK => ?_) AllReadyH.nil
    rw [if_neg (Bool.eq_false_iff.1 (by rfl))]
    refine hK.out _ _ hHeld (fun hHeld => ?_)
    clear hK K
    try simp only [Act.put, List.setIfInBounds_toArray, List.set_cons_zero, List.set_cons_succ]
    refine wpAnyH_take (i := 12) (oi := { dst := some 17, op := Op.nilCheck (Operand.tmp 16), type := 0, pos := "directory.go:209", after := #[{ on := 11, ground := Ground.data }, { on := 8, ground := Ground.guard }], guard := some (8, true) }) (v := undef) rfl (by kernel_rfl) (by kernel_rfl) (by kernel_rfl) (fun _ _ _ h => h) (Or.inr ⟨by rfl, rfl⟩) hHeld ?_
    try simp only [Act.put, List.setIfInBounds_toArray, List.set_cons_zero, List.set_cons_succ]
    refine wpAnyH_take (i := 13) (oi := { dst := some 18, op := Op.fieldAddr 99 (Operand.tmp 17) 0, type := 0, pos := "directory.go:209", after := #[{ on := 12, ground := Ground.data }, { on := 8, ground := Ground.guard }], guard := some (8, true) }) (v := undef) rfl (by kernel_rfl) (by kernel_rfl) (by kernel_rfl) (fun _ _ _ h => h) (Or.inr ⟨by rfl, rfl⟩) hHeld ?_
    try simp only [Act.put, List.setIfInBounds_toArray, List.set_cons_zero, List.set_cons_succ]
    refine wpAnyH_ready (rs := [14]) (by kernel_rfl) (by simp) ?_
    refine AllReadyH.cons (o := { dst := some 19, op := Op.call { callee := Callee.value (Operand.func 46), args := #[Operand.tmp 18], argTypes := #[97] }, type := 23, pos := "directory.go:209", after := #[{ on := 13, ground := Ground.data }, { on := 11, ground := Ground.chain }, { on := 8, ground := Ground.guard }], guard := some (8, true) }) rfl (fun K hK => ?_) AllReadyH.nil
    rw [if_neg (Bool.eq_false_iff.1 (by rfl))]
    refine hK.out _ _ hHeld (fun hHeld => ?_)
    clear hK K
    try simp only [Act.put, List.setIfInBounds_toArray, List.set_cons_zero, List.set_cons_succ]
    refine wpAnyH_ready (rs := [17]) (by kernel_rfl) (by simp) ?_
    refine AllReadyH.cons (o := { dst := some 22, op := Op.call { callee := Callee.value (Operand.func 67), args := #[Operand.tmp 14, Operand.tmp 19, Operand.tmp 21], argTypes := #[3, 23, 38] }, type := 4, pos := "directory.go:209", after := #[{ on := 9, ground := Ground.data }, { on := 14, ground := Ground.data }, { on := 16, ground := Ground.data }, { on := 14, ground := Ground.chain }, { on := 8, ground := Ground.guard }], guard := some (8, true) }) rfl (fun K hK => ?_) AllReadyH.nil
    rw [if_neg (Bool.eq_false_iff.1 (by rfl))]
    refine hK.out _ _ hHeld (fun hHeld => ?_)
    clear hK K
    try simp only [Act.put, List.setIfInBounds_toArray, List.set_cons_zero, List.set_cons_succ]
    refine wpAnyH_take (i := 18) (oi := { dst := some 23, op := Op.pick (Operand.tmp 13) (Operand.tmp 22) (Operand.const (Value.bool false)), type := 4, pos := "directory.go:209", after := #[{ on := 8, ground := Ground.data }, { on := 17, ground := Ground.data }], guard := none }) (v := ?_) rfl (by kernel_rfl) (by kernel_rfl) (by kernel_rfl) (fun _ _ _ h => h) (Or.inl ⟨by rfl, ?_⟩) hHeld ?_
    rotate_left
    · intro wz hSw
      go_simp
      all_goals (with_reducible rfl)
    try simp only [Act.put, List.setIfInBounds_toArray, List.set_cons_zero, List.set_cons_succ]
    refine wpAnyH_take (i := 19) (oi := { dst := some 4, op := Op.assign (Operand.tmp 23), type := 4, pos := "directory.go:209", after := #[{ on := 18, ground := Ground.data }, { on := 17, ground := Ground.chain }, { on := 0, ground := Ground.phase }, { on := 1, ground := Ground.phase }, { on := 2, ground := Ground.phase }, { on := 3, ground := Ground.phase }, { on := 4, ground := Ground.phase }, { on := 5, ground := Ground.phase }, { on := 6, ground := Ground.phase }, { on := 7, ground := Ground.phase }, { on := 8, ground := Ground.phase }, { on := 9, ground := Ground.phase }, { on := 10, ground := Ground.phase }, { on := 11, ground := Ground.phase }, { on := 12, ground := Ground.phase }, { on := 13, ground := Ground.phase }, { on := 14, ground := Ground.phase }, { on := 15, ground := Ground.phase }, { on := 16, ground := Ground.phase }, { on := 17, ground := Ground.phase }, { on := 18, ground := Ground.phase }], guard := none }) (v := ?_) rfl (by kernel_rfl) (by kernel_rfl) (by kernel_rfl) (fun _ _ _ h => h) (Or.inl ⟨by rfl, ?_⟩) hHeld ?_
    rotate_left
    · intro wz hSw
      go_simp
      all_goals (with_reducible rfl)
    try simp only [Act.put, List.setIfInBounds_toArray, List.set_cons_zero, List.set_cons_succ]
    refine wpAnyH_done (by kernel_rfl) ?_ _
    go_wp2_with fail
    go_ret
    exact ⟨by rw [hv.out]; rfl, hHeld.2.2⟩
end Go.Proofs.YthnfjkgiaanmhaaGreatDoor
namespace Go.Dj
/-- a long load under a guard that holds. -/
theorem wpListIn_load_g {F : Fence} {n : Nat} {P : Program} {ops : Array Oper} {rest : List Oper} {op : Oper} {a : Act} {w : World} {Q : Exit → Act → World → Prop} (hw : Region.wanted op (yielded ops a.tmps) = true) (ty : TypeId) (x : Operand) (ho : op.op = .load ty x)
    (b o : Nat) (hx : a.eval x = .pointer (some ⟨b, o, none⟩)) (cs : List Value) (d : TypeDesc) (hc : w.rangeAt b o cs)
    (hu : P.underlying ty = some d) (hd : d.isRow = true) (hi : (P.info? ty).map (·.size) = some cs.length)
    (h : wpListIn F n P ops Q rest (a.put op.dst (.agg cs.toArray)) w) : wpListIn F n P ops Q (op :: rest) a w := by
  refine BigFrame.wpListIn_want hw fun K hK' => ?_
  unfold Oper.wpIn
  refine ⟨?_, ?_⟩
  · simp [Oper.about, ho]
  · rw [Oper.semAt_plain F _ _ (by rw [ho]; intro c hc'; cases hc')]
    unfold execOp
    simp only [ho, hx, Instr.loadAt, Instr.sureAddr, Sem.run_bind, Sem.run_pure, Result.andThen_ok, run_loadVar_mid w b o ty cs d hc hu hd hi]
    exact hK' _ _ h
/-- panics barred. -/
def NoPan (Q : Exit → Act → World → Prop) : Exit → Act → World → Prop
  | .panic _, _, _ => False
  | e, a, w => Q e a w
theorem wp_nopan {P : Program} {c : Code} {Q : Exit → Act → World → Prop} {a : Act} {w : World} (h : c.wp P (NoPan Q) a w) : c.wp P Q a w :=
  wp_mono h (fun e a w h => by cases e <;> first | exact h | exact h.elim)
theorem nopan_normal {Q : Exit → Act → World → Prop} {a : Act} {w : World} (h : Q .normal a w) : NoPan Q .normal a w := h
end Go.Dj
namespace Go.Proofs.YthnfjkgiaanmhaaGreatDoor
open Go.RowKit Go.Mem Go.Shelf
open Go.Dr (Lst Rt)
attribute [local go_sem] Oper.semAt_some

/-- what the loop keeps. -/
def VrI (wL : World) (tb : Nat) (root : List Nat) (pre : List (Nat × List Nat)) (W : World) : Prop :=
  Blk W (tb + 2) 4 [.bool (Go.Dr.lastOk root pre)] ∧ Blk W tb 36 (bv root) ∧ Below tb wL W
theorem vrI_deaf (wL : World) (tb q : Nat) (root : List Nat) (hq : tb + 3 ≤ q) (hs : q < wL.heap.size) : Deaf (LoopR q wL.heap.size) (VrI wL tb root) := by
  rintro s A C row ⟨h1, h3, h4⟩ hg hr
  have hr' : ∀ r, row = some r → tb + 3 ≤ r := fun r e => by have := hr r e; unfold LoopR at this; omega
  exact ⟨h1.grown hg (fun e => by have := hr' _ e.symm; omega), h3.grown hg (fun e => by have := hr' _ e.symm; omega), h4.grown hg (by have := h4.size; omega) (fun r e => by have := hr' r e; omega)⟩

/-- what the walk keeps ahead of the loop. -/
def VrW (w : World) (tb : Nat) (root : List Nat) (x : Lst) (wz : World) : Prop := Blk wz tb 36 (bv root) ∧ Blk wz (tb + 1) 57 (gC x) ∧ Blk wz (tb + 1 + 1) 4 [.bool false] ∧ Below w.heap.size w wz
section
variable {w wz wq : World} {tb : Nat} {root : List Nat} {x : Lst}
theorem VrW.drew (h : VrW w tb root x wz) : VrW w tb root x wz.drew := ⟨h.1, h.2.1, h.2.2.1, h.2.2.2.drew⟩
theorem VrW.next (h : VrW w tb root x wz) (hb : Below wz.heap.size wz wq) : VrW w tb root x wq := ⟨h.1.below hb h.1.lt, h.2.1.below hb h.2.1.lt, h.2.2.1.below hb h.2.2.1.lt, h.2.2.2.trans (hb.mono h.2.2.2.size)⟩
end

end Go.Proofs.YthnfjkgiaanmhaaGreatDoor
