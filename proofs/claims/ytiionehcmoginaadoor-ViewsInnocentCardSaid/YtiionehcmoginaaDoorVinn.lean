/- the walk of ViewsInnocent -/
import Derived.Test.YtiionehcmoginaaDoorVsg
import Derived.Test.YtiionehcmoginaaDoorCards
import Derived.Test.YtiionehcmoginaaDoorTie
import Derived.SevenTiedAt
import Derived.Deep.DeepHandedRow
import Derived.Deep.DeepWitnessRowRef
namespace Go
/-- what follows a region whose ways differ in a block's number alone is walked once. -/
theorem wp_once1 {P : Program} {c : Code} {Q : Exit → Act → World → Prop} {a : Act} {w : World} (F : Nat → Act) (R : Nat → World → Prop) (h : (∀ x W, R x W → Q .normal (F x) W) → c.wp P Q a w) (key : ∀ x W, R x W → Q .normal (F x) W) : c.wp P Q a w := h key
end Go
namespace Go.Proofs.YtiionehcmoginaaDoor
open Go.RowKit Go.Mem Go.Shelf
open Go.Sto (Ent)
open Go.Vw (entT Hd Fk Sg proveV)

theorem rem_bd (x n : Nat) : ∃ m : Nat, m ≤ n ∧ Int.tmod (x : Int) ((n : Int) + 1) = (m : Int) := ⟨x % (n + 1), Nat.le_of_lt_succ (Nat.mod_lt x (Nat.succ_pos n)), by rw [show ((n : Int) + 1) = ((n + 1 : Nat) : Int) by omega]; exact (Int.ofNat_tmod x (n + 1)).symm⟩

set_option maxRecDepth 100000 in
set_option maxHeartbeats 20000000 in
theorem innocent_walk (id : Int) (iid : I64 id) (pv : Int) (ipv : I64 pv) (fo : Int) (ifo : I64 fo) (ta : Option Addr) (tn tc : Nat) (l : List ByteArray) (x : Nat) (hx : x < 256) (y : Nat) (hy : y < 256) (da : Option Addr) (dn dc : Nat) (D : List (List Nat)) (w : World) (HT : Tabs w)
    (HS : TxS w ta tn tc l) (HD : DS w da dn dc D) (hsz : ∀ s ∈ l, s.size ≤ reachBytes) :
    Calls Tryd.prog 5 #[.int .i64 id, .int .i64 pv, .int .i64 fo, .slice ta tn tc, .int .u8 (x : Int), .int .u8 (y : Int), .slice da dn dc] w (RetBo true w) := by
  have HS' := Lib.hid HS; have HD' := Lib.hid HD; have HT' := Lib.hid HT; have hsz' := Lib.hid hsz
  have hlen := HS.len
  have hDlen := HD.len
  clear HS HD HT hsz
  have hsa := Lib.hid (fun W hT => sane32_any W hT)
  have hop := Lib.hid (fun W => open32_any id pv fo ipv W)
  have hsh := Lib.hid (fun W H => short_any ta tn tc l W H hsz'.out)
  have hopi : Hid (OpenB id pv fo = true → OpenB id pv fo = true) := fun h => h
  obtain ⟨B, hB⟩ : ∃ B, Hid (OpenB id pv fo = B) := ⟨_, rfl⟩
  obtain ⟨C, hC⟩ : ∃ C, Hid (shortB l = C) := ⟨_, rfl⟩
  rw [hC.out] at hsh
  unfold Open32Post at hop
  rw [hB.out] at hop
  clear hopi
  obtain ⟨X, hX⟩ : ∃ X, X = RetBo true w := ⟨_, rfl⟩
  have hfin : Hid (∀ W, Below w.heap.size w W → X (.returned (.bool true)) W) := fun W hb => by rw [hX]; exact ⟨rfl, hb⟩
  rw [← hX]
  clear hX
  go_enter Tryd.func5, Tryd.ntmps5
  go_wp2_with fail
  refine (hsa.out _ HT'.out).mono ?_
  rintro e w1 ⟨rfl, hb1⟩
  have hbw := Lib.hid hb1
  clear hb1 hsa
  go_wp2_with fail
  refine (hop.out _).mono ?_
  rintro e w2 ⟨i, p, q, rfl, hop2, hst⟩
  have hop3 := Lib.hid hop2
  clear hop hop2
  replace hbw := Lib.hid (hbw.out.trans (hst.mono hbw.out.size))
  clear hst
  obtain ⟨v2, hP⟩ : ∃ V, Hid (PutR 27 (w2.alloc (.cells ([.int .i64 0, .int .i64 0, .slice none 0 0] : List Value).toArray 27)) V w2.heap.size 27 ([.int .i64 i, .int .i64 p, .slice none 0 0])) := put_row (Blk.new w2 27 ([.int .i64 0, .int .i64 0, .slice none 0 0])) rfl (sizeS3) (by intro u hu; simp only [List.mem_cons, List.not_mem_nil, or_false] at hu; rcases hu with rfl | rfl | rfl <;> rfl)
  have hst := below_grown ((Below.refl _ w2).alloc (Nat.le_refl _) _) hP.out.grown (by simp) (Nat.le_refl _)
  replace hbw := Lib.hid (hbw.out.trans (hst.mono hbw.out.size))
  clear hst
  have hBs := Lib.hid hP.out.blk
  cases B with
  | false =>
    have hf := Lib.hid (hfin.out _ hbw.out)
    go_wp2_with (first
      | (refine wpList_store_mid (by rfl) 27 (.tmp 15) (.tmp 33) (by rfl) w2.heap.size 0 ([.int .i64 i, .int .i64 p, .slice none 0 0]).toArray (by rfl) (by rfl) hP.out.there hP.out.info (by simpa using hP.out.one) ?_
         generalize hWq : World.setCells _ _ _ _ = Wa
         obtain rfl : v2 = Wa := by rw [← hWq]; exact hP.out.eq
         clear hWq))
    exact hf.out
  | true =>
  obtain ⟨rfl, rfl, hpq0⟩ := hop3.out (by trivial)
  have hpq := Lib.hid hpq0
  clear hop3 hpq0
  go_wp2_with (first
    | (refine wpList_store_mid (by rfl) 27 (.tmp 15) (.tmp 33) (by rfl) w2.heap.size 0 ([.int .i64 i, .int .i64 p, .slice none 0 0]).toArray (by rfl) (by rfl) hP.out.there hP.out.info (by simpa using hP.out.one) ?_
       generalize hWq : World.setCells _ _ _ _ = Wa
       obtain rfl : v2 = Wa := by rw [← hWq]; exact hP.out.eq
       clear hWq))
  clear hP
  refine (hsh.out _ (HS'.out.below hbw.out)).mono ?_
  rintro e w3 ⟨rfl, hst⟩
  clear hsh
  replace hBs := Lib.hid (hBs.out.below hst hBs.out.lt)
  replace hbw := Lib.hid (hbw.out.trans (hst.mono hbw.out.size))
  clear hst
  cases C with
  | false =>
    have hf := Lib.hid (hfin.out _ hbw.out)
    go_wp2_with fail
    exact hf.out
  | true =>
  have hsB := Lib.hid hC.out
  have h8 := (short_iff hC.out).1
  clear hC
  by_cases hd20 : dn ≤ 20
  case neg =>
    have g1 : decide ((20 : Int) < (dn : Int)) = true := decide_eq_true (by omega)
    have g2 : decide (20 < dn) = true := decide_eq_true (by omega)
    have hf := Lib.hid (hfin.out _ hbw.out)
    clear hd20
    go_wp2_with fail
    exact hf.out
  case pos =>
  have g1 : decide ((20 : Int) < (dn : Int)) = false := decide_eq_false (by omega)
  have g2 : decide (20 < dn) = false := decide_eq_false (by omega)
  go_wp2_with fail
  refine (ents_at hsB.out _ (HT'.out.below hbw.out) (HS'.out.below hbw.out)).mono ?_
  rintro e w4 ⟨a8, c8, rfl, hE0, hst⟩
  clear g1 g2
  have hE := Lib.hid hE0
  clear hE0
  replace hBs := Lib.hid (hBs.out.below hst hBs.out.lt)
  replace hbw := Lib.hid (hbw.out.trans (hst.mono hbw.out.size))
  clear hst
  have hokE := Lib.hid (okE_ents hsB.out)
  have hentok := Lib.hid (Go.Vw.ents_ok l)
  obtain ⟨es, hes⟩ : ∃ es, Hid (l.map entT = es) := ⟨_, rfl⟩
  rw [hes.out] at hE hokE hentok
  have hel := Lib.hid hE.out.rs.len
  clear hes
  obtain ⟨m, hm, em⟩ := rem_bd x tn
  obtain ⟨k, hk, ek⟩ := rem_bd y tn
  obtain ⟨hA, okA, sA, cA⟩ := sign_for (n := m) (es := es.take m) hB.out ifo (by omega) (by rw [List.length_take, hel.out]; omega) (fun e he => hokE.out e (List.mem_of_mem_take he))
  obtain ⟨hZ, okZ, sZ, cZ⟩ := sign_for (n := k) (es := es.take k) hB.out ifo (by omega) (by rw [List.length_take, hel.out]; omega) (fun e he => hokE.out e (List.mem_of_mem_take he))
  have sA' := Lib.hid sA; have cA' := Lib.hid cA; have sZ' := Lib.hid sZ; have cZ' := Lib.hid cZ
  clear sA cA sZ cZ
  have hpq64 : Hid (I64 q) := by
    have hbd := pubB_bd 4 p
    rw [← hpq.out] at hbd
    exact ⟨by omega, by omega⟩
  rw [← hpq.out] at sA' sZ'
  clear hpq
  have x63 : (x : Int) ≤ 9223372036854775807 := by omega
  have y63 : (y : Int) ≤ 9223372036854775807 := by omega
  have n63 : (tn : Int) ≤ 1000 := by omega
  have w1x : IntKind.i64.wrap (x : Int) = (x : Int) := IntWalk.i64_in _ (by omega)
  have w1y : IntKind.i64.wrap (y : Int) = (y : Int) := IntWalk.i64_in _ (by omega)
  have w1n : IntKind.i64.wrap ((tn : Int) + 1) = (tn : Int) + 1 := IntWalk.i64_in _ (by omega)
  have nz2 : ((tn : Int) + 1 = 0) = False := by simp; omega
  go_upto_region 7 with fail
  refine wp_region_held_drew (S := fun wz => Below w4.heap.size w4 wz) (by kernel_rfl) ((Below.refl _ w4).drew) (fun hHeld => ?_)
  refine wpAnyH_take (i := 0) (oi := { dst := some 50, op := Op.move (Operand.tmp 4), type := 5, pos := "law.go:196", after := #[], guard := none }) (v := ?_) rfl (by kernel_rfl) (by kernel_rfl) (by kernel_rfl) (fun _ _ _ h => h) (Or.inl ⟨by rfl, ?_⟩) hHeld ?_
  rotate_left
  · intro wz hSw
    go_simp
    all_goals (with_reducible rfl)
  try simp only [Act.put, List.setIfInBounds_toArray, List.set_cons_zero, List.set_cons_succ]
  refine wpAnyH_take (i := 1) (oi := { dst := some 51, op := Op.convert 5 3 (Operand.tmp 50), type := 3, pos := "law.go:196", after := #[{ on := 0, ground := Ground.data }], guard := none }) (v := ?_) rfl (by kernel_rfl) (by kernel_rfl) (by kernel_rfl) (fun _ _ _ h => h) (Or.inl ⟨by rfl, ?_⟩) hHeld ?_
  rotate_left
  · intro wz hSw
    go_simp
    all_goals (with_reducible rfl)
  try simp only [Act.put, List.setIfInBounds_toArray, List.set_cons_zero, List.set_cons_succ]
  refine wpAnyH_take (i := 2) (oi := { dst := some 52, op := Op.move (Operand.tmp 18), type := 31, pos := "law.go:196", after := #[], guard := none }) (v := ?_) rfl (by kernel_rfl) (by kernel_rfl) (by kernel_rfl) (fun _ _ _ h => h) (Or.inl ⟨by rfl, ?_⟩) hHeld ?_
  rotate_left
  · intro wz hSw
    go_simp
    all_goals (with_reducible rfl)
  try simp only [Act.put, List.setIfInBounds_toArray, List.set_cons_zero, List.set_cons_succ]
  refine wpAnyH_take (i := 3) (oi := { dst := some 53, op := Op.call { callee := Callee.builtin Builtin.len, args := #[Operand.tmp 52], argTypes := #[31] }, type := 3, pos := "law.go:196", after := #[{ on := 2, ground := Ground.data }], guard := none }) (v := ?_) rfl (by kernel_rfl) (by kernel_rfl) (by kernel_rfl) (fun _ _ _ h => h) (Or.inl ⟨by rfl, ?_⟩) hHeld ?_
  rotate_left
  · intro wz hSw
    go_simp
    all_goals (with_reducible rfl)
  try simp only [Act.put, List.setIfInBounds_toArray, List.set_cons_zero, List.set_cons_succ]
  refine wpAnyH_take (i := 4) (oi := { dst := some 54, op := Op.binOp BinOp.add 3 (Operand.tmp 53) (Operand.const (Value.int IntKind.i64 1)) 3, type := 3, pos := "law.go:196", after := #[{ on := 3, ground := Ground.data }], guard := none }) (v := ?_) rfl (by kernel_rfl) (by kernel_rfl) (by kernel_rfl) (fun _ _ _ h => h) (Or.inl ⟨by rfl, ?_⟩) hHeld ?_
  rotate_left
  · intro wz hSw
    go_simp
    all_goals (with_reducible rfl)
  try simp only [Act.put, List.setIfInBounds_toArray, List.set_cons_zero, List.set_cons_succ]
  refine wpAnyH_take (i := 5) (oi := { dst := some 55, op := Op.binOp BinOp.rem 3 (Operand.tmp 51) (Operand.tmp 54) 3, type := 3, pos := "law.go:196", after := #[{ on := 1, ground := Ground.data }, { on := 4, ground := Ground.data }], guard := none }) (v := ?_) rfl (by kernel_rfl) (by kernel_rfl) (by kernel_rfl) (fun _ _ _ h => h) (Or.inl ⟨by rfl, ?_⟩) hHeld ?_
  rotate_left
  · intro wz hSw
    go_simp
    all_goals (with_reducible rfl)
  try simp only [Act.put, List.setIfInBounds_toArray, List.set_cons_zero, List.set_cons_succ]
  refine wpAnyH_take (i := 6) (oi := { dst := some 56, op := Op.move (Operand.tmp 5), type := 5, pos := "law.go:196", after := #[{ on := 12, ground := Ground.gcOnly Departure.lateStores }], guard := none }) (v := ?_) rfl (by kernel_rfl) (by kernel_rfl) (by kernel_rfl) (fun _ _ _ h => h) (Or.inl ⟨by rfl, ?_⟩) hHeld ?_
  rotate_left
  · intro wz hSw
    go_simp
    all_goals (with_reducible rfl)
  try simp only [Act.put, List.setIfInBounds_toArray, List.set_cons_zero, List.set_cons_succ]
  refine wpAnyH_take (i := 7) (oi := { dst := some 57, op := Op.convert 5 3 (Operand.tmp 56), type := 3, pos := "law.go:196", after := #[{ on := 6, ground := Ground.data }, { on := 12, ground := Ground.gcOnly Departure.lateStores }], guard := none }) (v := ?_) rfl (by kernel_rfl) (by kernel_rfl) (by kernel_rfl) (fun _ _ _ h => h) (Or.inl ⟨by rfl, ?_⟩) hHeld ?_
  rotate_left
  · intro wz hSw
    go_simp
    all_goals (with_reducible rfl)
  try simp only [Act.put, List.setIfInBounds_toArray, List.set_cons_zero, List.set_cons_succ]
  refine wpAnyH_take (i := 8) (oi := { dst := some 58, op := Op.move (Operand.tmp 18), type := 31, pos := "law.go:196", after := #[], guard := none }) (v := ?_) rfl (by kernel_rfl) (by kernel_rfl) (by kernel_rfl) (fun _ _ _ h => h) (Or.inl ⟨by rfl, ?_⟩) hHeld ?_
  rotate_left
  · intro wz hSw
    go_simp
    all_goals (with_reducible rfl)
  try simp only [Act.put, List.setIfInBounds_toArray, List.set_cons_zero, List.set_cons_succ]
  refine wpAnyH_take (i := 9) (oi := { dst := some 59, op := Op.call { callee := Callee.builtin Builtin.len, args := #[Operand.tmp 58], argTypes := #[31] }, type := 3, pos := "law.go:196", after := #[{ on := 8, ground := Ground.data }], guard := none }) (v := ?_) rfl (by kernel_rfl) (by kernel_rfl) (by kernel_rfl) (fun _ _ _ h => h) (Or.inl ⟨by rfl, ?_⟩) hHeld ?_
  rotate_left
  · intro wz hSw
    go_simp
    all_goals (with_reducible rfl)
  try simp only [Act.put, List.setIfInBounds_toArray, List.set_cons_zero, List.set_cons_succ]
  refine wpAnyH_take (i := 10) (oi := { dst := some 60, op := Op.binOp BinOp.add 3 (Operand.tmp 59) (Operand.const (Value.int IntKind.i64 1)) 3, type := 3, pos := "law.go:196", after := #[{ on := 9, ground := Ground.data }, { on := 12, ground := Ground.gcOnly Departure.lateStores }], guard := none }) (v := ?_) rfl (by kernel_rfl) (by kernel_rfl) (by kernel_rfl) (fun _ _ _ h => h) (Or.inl ⟨by rfl, ?_⟩) hHeld ?_
  rotate_left
  · intro wz hSw
    go_simp
    all_goals (with_reducible rfl)
  try simp only [Act.put, List.setIfInBounds_toArray, List.set_cons_zero, List.set_cons_succ]
  refine wpAnyH_take (i := 11) (oi := { dst := some 61, op := Op.binOp BinOp.rem 3 (Operand.tmp 57) (Operand.tmp 60) 3, type := 3, pos := "law.go:196", after := #[{ on := 7, ground := Ground.data }, { on := 10, ground := Ground.data }, { on := 12, ground := Ground.gcOnly Departure.lateStores }], guard := none }) (v := ?_) rfl (by kernel_rfl) (by kernel_rfl) (by kernel_rfl) (fun _ _ _ h => h) (Or.inl ⟨by rfl, ?_⟩) hHeld ?_
  rotate_left
  · intro wz hSw
    go_simp
    all_goals (with_reducible rfl)
  try simp only [Act.put, List.setIfInBounds_toArray, List.set_cons_zero, List.set_cons_succ]
  refine wpAnyH_take (i := 12) (oi := { dst := some 19, op := Op.assign (Operand.tmp 55), type := 3, pos := "law.go:196", after := #[{ on := 5, ground := Ground.data }, { on := 0, ground := Ground.phase }, { on := 1, ground := Ground.phase }, { on := 2, ground := Ground.phase }, { on := 3, ground := Ground.phase }, { on := 4, ground := Ground.phase }, { on := 5, ground := Ground.phase }, { on := 6, ground := Ground.textOnly Departure.lateStores }, { on := 7, ground := Ground.textOnly Departure.lateStores }, { on := 8, ground := Ground.textOnly Departure.lateStores }, { on := 9, ground := Ground.textOnly Departure.lateStoresUnsure }, { on := 10, ground := Ground.textOnly Departure.lateStores }, { on := 11, ground := Ground.textOnly Departure.lateStores }], guard := none }) (v := ?_) rfl (by kernel_rfl) (by kernel_rfl) (by kernel_rfl) (fun _ _ _ h => h) (Or.inl ⟨by rfl, ?_⟩) hHeld ?_
  rotate_left
  · intro wz hSw
    go_simp
    all_goals (with_reducible rfl)
  try simp only [Act.put, List.setIfInBounds_toArray, List.set_cons_zero, List.set_cons_succ]
  refine wpAnyH_take (i := 13) (oi := { dst := some 20, op := Op.assign (Operand.tmp 61), type := 3, pos := "law.go:196", after := #[{ on := 11, ground := Ground.data }, { on := 12, ground := Ground.chain }, { on := 0, ground := Ground.phase }, { on := 1, ground := Ground.phase }, { on := 2, ground := Ground.phase }, { on := 3, ground := Ground.phase }, { on := 4, ground := Ground.phase }, { on := 5, ground := Ground.phase }, { on := 6, ground := Ground.phase }, { on := 7, ground := Ground.phase }, { on := 8, ground := Ground.phase }, { on := 9, ground := Ground.phase }, { on := 10, ground := Ground.phase }, { on := 11, ground := Ground.phase }, { on := 12, ground := Ground.phase }], guard := none }) (v := ?_) rfl (by kernel_rfl) (by kernel_rfl) (by kernel_rfl) (fun _ _ _ h => h) (Or.inl ⟨by rfl, ?_⟩) hHeld ?_
  rotate_left
  · intro wz hSw
    go_simp
    all_goals (with_reducible rfl)
  try simp only [Act.put, List.setIfInBounds_toArray, List.set_cons_zero, List.set_cons_succ]
  refine wpAnyH_done (by kernel_rfl) ?_ _
  have hst := hHeld
  clear hHeld w1x w1y w1n nz2 em ek x63 y63
  replace hBs := Lib.hid (hBs.out.below hst hBs.out.lt)
  replace hE := Lib.hid (hE.out.below hst)
  replace hbw := Lib.hid (hbw.out.trans (hst.mono hbw.out.size))
  clear hst
  generalize w4.drew = w5 at *
  have hsl := fun W => slice_h hE.out hm W
  go_upto_region 8 with fail
  have s0 := hBs.out.at_ (i := 0) rfl
  have s1 := hBs.out.at_ (i := 1) rfl
  have s2 := hBs.out.at_ (i := 2) rfl
  have glt := hBs.out.lt
  have hEk := Lib.hid (hE.out.take (k := m) hm)
  refine wp_once1 ?F8 (fun q W => Blk W q 46 (hdC hA) ∧ Below w5.heap.size w5 W) ?h8 ?key8
  case h8 =>
    intro key
    have key' := Lib.hid key
    clear key
    refine wp_region_held_drew (S := fun wz => Below w5.heap.size w5 wz) (by kernel_rfl) ((Below.refl _ w5).drew) (fun hHeld => ?_)
    refine wpAnyH_take (i := 0) (oi := { dst := some 63, op := Op.load 27 (Operand.tmp 15), type := 27, pos := "law.go:197", after := #[], guard := none }) (v := ?_) rfl (by kernel_rfl) (by kernel_rfl) (by kernel_rfl) (fun _ _ _ h => h) (Or.inl ⟨by rfl, ?_⟩) hHeld ?_
    rotate_left
    · intro wz hSw
      have q0 := (hSw.cell (p := ⟨w2.heap.size, 0, none⟩) glt).trans s0
      have q1 := (hSw.cell (p := ⟨w2.heap.size, 1, none⟩) glt).trans s1
      have q2 := (hSw.cell (p := ⟨w2.heap.size, 2, none⟩) glt).trans s2
      go_simp
      all_goals (with_reducible rfl)
    try simp only [Act.put, List.setIfInBounds_toArray, List.set_cons_zero, List.set_cons_succ]
    refine wpAnyH_take (i := 1) (oi := { dst := some 64, op := Op.move (Operand.tmp 2), type := 3, pos := "law.go:197", after := #[], guard := none }) (v := ?_) rfl (by kernel_rfl) (by kernel_rfl) (by kernel_rfl) (fun _ _ _ h => h) (Or.inl ⟨by rfl, ?_⟩) hHeld ?_
    rotate_left
    · intro wz hSw
      go_simp
      all_goals (with_reducible rfl)
    try simp only [Act.put, List.setIfInBounds_toArray, List.set_cons_zero, List.set_cons_succ]
    refine wpAnyH_take (i := 2) (oi := { dst := some 65, op := Op.move (Operand.tmp 18), type := 31, pos := "law.go:197", after := #[], guard := none }) (v := ?_) rfl (by kernel_rfl) (by kernel_rfl) (by kernel_rfl) (fun _ _ _ h => h) (Or.inl ⟨by rfl, ?_⟩) hHeld ?_
    rotate_left
    · intro wz hSw
      go_simp
      all_goals (with_reducible rfl)
    try simp only [Act.put, List.setIfInBounds_toArray, List.set_cons_zero, List.set_cons_succ]
    refine wpAnyH_take (i := 3) (oi := { dst := some 66, op := Op.move (Operand.tmp 19), type := 3, pos := "law.go:197", after := #[], guard := none }) (v := ?_) rfl (by kernel_rfl) (by kernel_rfl) (by kernel_rfl) (fun _ _ _ h => h) (Or.inl ⟨by rfl, ?_⟩) hHeld ?_
    rotate_left
    · intro wz hSw
      go_simp
      all_goals (with_reducible rfl)
    try simp only [Act.put, List.setIfInBounds_toArray, List.set_cons_zero, List.set_cons_succ]
    refine wpAnyH_take (i := 4) (oi := { dst := some 67, op := Op.slice 31 (Operand.tmp 65) none (some (Operand.tmp 66)) none, type := 31, pos := "law.go:197", after := #[{ on := 2, ground := Ground.data }, { on := 3, ground := Ground.data }], guard := none }) (v := ?_) rfl (by kernel_rfl) (by kernel_rfl) (by kernel_rfl) (fun _ _ _ h => h) (Or.inl ⟨by rfl, ?_⟩) hHeld ?_
    rotate_left
    · intro wz hSw
      go_simp
      all_goals (with_reducible rfl)
    try simp only [Act.put, List.setIfInBounds_toArray, List.set_cons_zero, List.set_cons_succ]
    refine wpAnyH_ready (rs := [5, 9]) (by kernel_rfl) (by simp) ?_
    refine AllReadyH.cons (o := { dst := some 68, op := Op.call { callee := Callee.value (Operand.func 17), args := #[Operand.tmp 63, Operand.tmp 64, Operand.tmp 67], argTypes := #[27, 3, 31] }, type := 55, pos := "law.go:197", after := #[{ on := 0, ground := Ground.data }, { on := 1, ground := Ground.data }, { on := 4, ground := Ground.data }], guard := none }) rfl (fun K hK => ?_) (AllReadyH.cons (o := { dst := some 21, op := Op.alloc 46, type := 0, pos := "law.go:197", after := #[], guard := none }) rfl (fun K hK => ?_) AllReadyH.nil)
    case refine_1 =>
      rw [if_pos (by rfl)]
      show Oper.wp _ _ _ _ K _
      go_simp
      go_at_call 17
      refine (cA'.out a8 c8 _ (HT'.out.below (hbw.out.trans (hHeld.mono hbw.out.size))) (hEk.out.below hHeld)).mono ?_
      rintro e wq ⟨rfl, hbq⟩
      refine hK.out _ _ (hHeld.trans (hbq.mono hHeld.size)) (fun hHeld => ?_)
      clear hbq
      clear hK K
      try simp only [Act.put, List.setIfInBounds_toArray, List.set_cons_zero, List.set_cons_succ]
      refine wpAnyH_take (i := 6) (oi := { dst := some 62, op := Op.move (Operand.tmp 68), type := 55, pos := "law.go:197", after := #[{ on := 5, ground := Ground.data }], guard := none }) (v := ?_) rfl (by kernel_rfl) (by kernel_rfl) (by kernel_rfl) (fun _ _ _ h => h) (Or.inl ⟨by rfl, ?_⟩) hHeld ?_
      rotate_left
      · intro wz hSw
        go_simp
        all_goals (with_reducible rfl)
      try simp only [Act.put, List.setIfInBounds_toArray, List.set_cons_zero, List.set_cons_succ]
      refine wpAnyH_take (i := 7) (oi := { dst := some 69, op := Op.extract (Operand.tmp 62) 0, type := 46, pos := "law.go:197", after := #[{ on := 6, ground := Ground.data }], guard := none }) (v := ?_) rfl (by kernel_rfl) (by kernel_rfl) (by kernel_rfl) (fun _ _ _ h => h) (Or.inl ⟨by rfl, ?_⟩) hHeld ?_
      rotate_left
      · intro wz hSw
        go_simp
        all_goals (with_reducible rfl)
      try simp only [Act.put, List.setIfInBounds_toArray, List.set_cons_zero, List.set_cons_succ]
      refine wpAnyH_take (i := 8) (oi := { dst := some 70, op := Op.extract (Operand.tmp 62) 1, type := 39, pos := "law.go:197", after := #[{ on := 6, ground := Ground.data }, { on := 10, ground := Ground.gcOnly Departure.lateStores }], guard := none }) (v := ?_) rfl (by kernel_rfl) (by kernel_rfl) (by kernel_rfl) (fun _ _ _ h => h) (Or.inl ⟨by rfl, ?_⟩) hHeld ?_
      rotate_left
      · intro wz hSw
        go_simp
        all_goals (with_reducible rfl)
      try simp only [Act.put, List.setIfInBounds_toArray, List.set_cons_zero, List.set_cons_succ]
      have hsz := hHeld.size
      refine wpAnyH_ready (rs := [9]) (by kernel_rfl) (by simp) ?_
      refine AllReadyH.cons (o := { dst := some 21, op := Op.alloc 46, type := 0, pos := "law.go:197", after := #[], guard := none }) rfl (fun K hK => ?_) AllReadyH.nil
      rw [if_pos (by rfl)]
      show Oper.wp _ _ _ _ K _
      go_simp
      refine hK.out _ _ (hHeld.alloc hHeld.size _) (fun hHeld => ?_)
      clear hK K
      try simp only [Act.put, List.setIfInBounds_toArray, List.set_cons_zero, List.set_cons_succ]
      have hB2 : Blk (wq.alloc (.cells zrH.toArray 46)) wq.heap.size 46 zrH := Blk.new wq _ _
      obtain ⟨W3, hQ⟩ := put_row (ty := 46) hB2 (x := hdC hA) (by rw [hdC_len okA]; rfl) (by rw [hdC_len okA]; exact sizeH) (hdC_r okA).one
      have hb3 := below_grown hHeld hQ.grown hHeld.size (hsz)
      refine wpAnyH_ready (rs := [10]) (by kernel_rfl) (by simp) ?_
      refine AllReadyH.cons (o := { dst := none, op := Op.store 46 (Operand.tmp 21) (Operand.tmp 69), type := 0, pos := "law.go:197", after := #[{ on := 9, ground := Ground.data }, { on := 7, ground := Ground.data }, { on := 5, ground := Ground.chain }, { on := 0, ground := Ground.phase }, { on := 1, ground := Ground.phase }, { on := 2, ground := Ground.phase }, { on := 3, ground := Ground.phase }, { on := 4, ground := Ground.phase }, { on := 5, ground := Ground.phase }, { on := 6, ground := Ground.phase }, { on := 7, ground := Ground.phase }, { on := 8, ground := Ground.textOnly Departure.lateStores }, { on := 9, ground := Ground.phase }], guard := none }) rfl (fun K hK => ?_) AllReadyH.nil
      rw [if_pos (by rfl)]
      refine wp_store_mid 46 _ _ rfl wq.heap.size 0 (hdC hA).toArray (by rfl) (by rfl) hQ.there hQ.info (by simpa using hQ.one) ?_
      generalize hWq : World.setCells _ _ _ _ = Wa
      obtain rfl : W3 = Wa := by rw [← hWq]; exact hQ.eq
      clear hWq
      refine hK.out _ _ hb3 (fun hHeld => ?_)
      clear hK K
      try simp only [Act.put]
      refine wpAnyH_take (i := 11) (oi := { dst := some 22, op := Op.assign (Operand.tmp 70), type := 39, pos := "law.go:197", after := #[{ on := 8, ground := Ground.data }, { on := 10, ground := Ground.chain }, { on := 0, ground := Ground.phase }, { on := 1, ground := Ground.phase }, { on := 2, ground := Ground.phase }, { on := 3, ground := Ground.phase }, { on := 4, ground := Ground.phase }, { on := 5, ground := Ground.phase }, { on := 6, ground := Ground.phase }, { on := 7, ground := Ground.phase }, { on := 8, ground := Ground.phase }, { on := 9, ground := Ground.phase }, { on := 10, ground := Ground.phase }], guard := none }) (v := ?_) rfl (by kernel_rfl) (by kernel_rfl) (by kernel_rfl) (fun _ _ _ h => h) (Or.inl ⟨by rfl, ?_⟩) hHeld ?_
      rotate_left
      · intro wz hSw
        go_simp
        all_goals (with_reducible rfl)
      try simp only [Act.put, List.setIfInBounds_toArray, List.set_cons_zero, List.set_cons_succ]
      refine wpAnyH_done (by kernel_rfl) ?_ _
      obtain ⟨q, hq⟩ : ∃ q, Hid (wq.heap.size = q) := ⟨_, rfl⟩
      have hbk := hQ.blk
      rw [hq.out] at hbk
      rw [hq.out]
      exact key'.out q W3 ⟨hbk, hHeld⟩
    case refine_2 =>
      rw [if_pos (by rfl)]
      show Oper.wp _ _ _ _ K _
      go_simp
      refine hK.out _ _ (hHeld.alloc hHeld.size _) (fun hHeld => ?_)
      clear hK K
      try simp only [Act.put, List.setIfInBounds_toArray, List.set_cons_zero, List.set_cons_succ]
      have hB : Blk (w5.drew.alloc (.cells zrH.toArray 46)) w5.heap.size 46 zrH := Blk.new w5.drew _ _
      refine wpAnyH_ready (rs := [5]) (by kernel_rfl) (by simp) ?_
      refine AllReadyH.cons (o := { dst := some 68, op := Op.call { callee := Callee.value (Operand.func 17), args := #[Operand.tmp 63, Operand.tmp 64, Operand.tmp 67], argTypes := #[27, 3, 31] }, type := 55, pos := "law.go:197", after := #[{ on := 0, ground := Ground.data }, { on := 1, ground := Ground.data }, { on := 4, ground := Ground.data }], guard := none }) rfl (fun K hK => ?_) AllReadyH.nil
      rw [if_pos (by rfl)]
      show Oper.wp _ _ _ _ K _
      go_simp
      go_at_call 17
      refine (cA'.out a8 c8 _ (HT'.out.below (hbw.out.trans (hHeld.mono hbw.out.size))) (hEk.out.below hHeld)).mono ?_
      rintro e wq ⟨rfl, hbq⟩
      have hB2 := hB.below hbq hB.lt
      refine hK.out _ _ (hHeld.trans (hbq.mono hHeld.size)) (fun hHeld => ?_)
      clear hbq
      clear hK K
      try simp only [Act.put, List.setIfInBounds_toArray, List.set_cons_zero, List.set_cons_succ]
      refine wpAnyH_take (i := 6) (oi := { dst := some 62, op := Op.move (Operand.tmp 68), type := 55, pos := "law.go:197", after := #[{ on := 5, ground := Ground.data }], guard := none }) (v := ?_) rfl (by kernel_rfl) (by kernel_rfl) (by kernel_rfl) (fun _ _ _ h => h) (Or.inl ⟨by rfl, ?_⟩) hHeld ?_
      rotate_left
      · intro wz hSw
        go_simp
        all_goals (with_reducible rfl)
      try simp only [Act.put, List.setIfInBounds_toArray, List.set_cons_zero, List.set_cons_succ]
      refine wpAnyH_take (i := 7) (oi := { dst := some 69, op := Op.extract (Operand.tmp 62) 0, type := 46, pos := "law.go:197", after := #[{ on := 6, ground := Ground.data }], guard := none }) (v := ?_) rfl (by kernel_rfl) (by kernel_rfl) (by kernel_rfl) (fun _ _ _ h => h) (Or.inl ⟨by rfl, ?_⟩) hHeld ?_
      rotate_left
      · intro wz hSw
        go_simp
        all_goals (with_reducible rfl)
      try simp only [Act.put, List.setIfInBounds_toArray, List.set_cons_zero, List.set_cons_succ]
      refine wpAnyH_take (i := 8) (oi := { dst := some 70, op := Op.extract (Operand.tmp 62) 1, type := 39, pos := "law.go:197", after := #[{ on := 6, ground := Ground.data }, { on := 10, ground := Ground.gcOnly Departure.lateStores }], guard := none }) (v := ?_) rfl (by kernel_rfl) (by kernel_rfl) (by kernel_rfl) (fun _ _ _ h => h) (Or.inl ⟨by rfl, ?_⟩) hHeld ?_
      rotate_left
      · intro wz hSw
        go_simp
        all_goals (with_reducible rfl)
      try simp only [Act.put, List.setIfInBounds_toArray, List.set_cons_zero, List.set_cons_succ]
      obtain ⟨W3, hQ⟩ := put_row (ty := 46) hB2 (x := hdC hA) (by rw [hdC_len okA]; rfl) (by rw [hdC_len okA]; exact sizeH) (hdC_r okA).one
      have hb3 := below_grown hHeld hQ.grown hHeld.size (Nat.le_refl _)
      refine wpAnyH_ready (rs := [10]) (by kernel_rfl) (by simp) ?_
      refine AllReadyH.cons (o := { dst := none, op := Op.store 46 (Operand.tmp 21) (Operand.tmp 69), type := 0, pos := "law.go:197", after := #[{ on := 9, ground := Ground.data }, { on := 7, ground := Ground.data }, { on := 5, ground := Ground.chain }, { on := 0, ground := Ground.phase }, { on := 1, ground := Ground.phase }, { on := 2, ground := Ground.phase }, { on := 3, ground := Ground.phase }, { on := 4, ground := Ground.phase }, { on := 5, ground := Ground.phase }, { on := 6, ground := Ground.phase }, { on := 7, ground := Ground.phase }, { on := 8, ground := Ground.textOnly Departure.lateStores }, { on := 9, ground := Ground.phase }], guard := none }) rfl (fun K hK => ?_) AllReadyH.nil
      rw [if_pos (by rfl)]
      refine wp_store_mid 46 _ _ rfl w5.heap.size 0 (hdC hA).toArray (by rfl) (by rfl) hQ.there hQ.info (by simpa using hQ.one) ?_
      generalize hWq : World.setCells _ _ _ _ = Wa
      obtain rfl : W3 = Wa := by rw [← hWq]; exact hQ.eq
      clear hWq
      refine hK.out _ _ hb3 (fun hHeld => ?_)
      clear hK K
      try simp only [Act.put]
      refine wpAnyH_take (i := 11) (oi := { dst := some 22, op := Op.assign (Operand.tmp 70), type := 39, pos := "law.go:197", after := #[{ on := 8, ground := Ground.data }, { on := 10, ground := Ground.chain }, { on := 0, ground := Ground.phase }, { on := 1, ground := Ground.phase }, { on := 2, ground := Ground.phase }, { on := 3, ground := Ground.phase }, { on := 4, ground := Ground.phase }, { on := 5, ground := Ground.phase }, { on := 6, ground := Ground.phase }, { on := 7, ground := Ground.phase }, { on := 8, ground := Ground.phase }, { on := 9, ground := Ground.phase }, { on := 10, ground := Ground.phase }], guard := none }) (v := ?_) rfl (by kernel_rfl) (by kernel_rfl) (by kernel_rfl) (fun _ _ _ h => h) (Or.inl ⟨by rfl, ?_⟩) hHeld ?_
      rotate_left
      · intro wz hSw
        go_simp
        all_goals (with_reducible rfl)
      try simp only [Act.put, List.setIfInBounds_toArray, List.set_cons_zero, List.set_cons_succ]
      refine wpAnyH_done (by kernel_rfl) ?_ _
      obtain ⟨q, hq⟩ : ∃ q, Hid (w5.heap.size = q) := ⟨_, rfl⟩
      have hbk := hQ.blk
      have hH2 := Lib.hid hHeld
      rw [hq.out] at hbk
      rw [hq.out]
      exact key'.out q W3 ⟨hbk, hH2.out⟩
  case key8 =>
  intro g1 w6 hR
  have hBA := Lib.hid hR.1
  have hst := hR.2
  clear hR hEk s0 s1 s2 glt hsl
  replace hBs := Lib.hid (hBs.out.below hst hBs.out.lt)
  replace hE := Lib.hid (hE.out.below hst)
  replace hbw := Lib.hid (hbw.out.trans (hst.mono hbw.out.size))
  clear hst
  have hsl := fun W => slice_h hE.out hk W
  go_upto_region 9 with fail
  have s0 := hBs.out.at_ (i := 0) rfl
  have s1 := hBs.out.at_ (i := 1) rfl
  have s2 := hBs.out.at_ (i := 2) rfl
  have glt := hBs.out.lt
  have hEk := Lib.hid (hE.out.take (k := k) hk)
  refine wp_once1 ?F9 (fun q W => Blk W q 46 (hdC hZ) ∧ Below w6.heap.size w6 W) ?h9 ?key9
  case h9 =>
    intro key
    have key' := Lib.hid key
    clear key
    refine wp_region_held_drew (S := fun wz => Below w6.heap.size w6 wz) (by kernel_rfl) ((Below.refl _ w6).drew) (fun hHeld => ?_)
    refine wpAnyH_take (i := 0) (oi := { dst := some 72, op := Op.load 27 (Operand.tmp 15), type := 27, pos := "law.go:198", after := #[], guard := none }) (v := ?_) rfl (by kernel_rfl) (by kernel_rfl) (by kernel_rfl) (fun _ _ _ h => h) (Or.inl ⟨by rfl, ?_⟩) hHeld ?_
    rotate_left
    · intro wz hSw
      have q0 := (hSw.cell (p := ⟨w2.heap.size, 0, none⟩) glt).trans s0
      have q1 := (hSw.cell (p := ⟨w2.heap.size, 1, none⟩) glt).trans s1
      have q2 := (hSw.cell (p := ⟨w2.heap.size, 2, none⟩) glt).trans s2
      go_simp
      all_goals (with_reducible rfl)
    try simp only [Act.put, List.setIfInBounds_toArray, List.set_cons_zero, List.set_cons_succ]
    refine wpAnyH_take (i := 1) (oi := { dst := some 73, op := Op.move (Operand.tmp 2), type := 3, pos := "law.go:198", after := #[], guard := none }) (v := ?_) rfl (by kernel_rfl) (by kernel_rfl) (by kernel_rfl) (fun _ _ _ h => h) (Or.inl ⟨by rfl, ?_⟩) hHeld ?_
    rotate_left
    · intro wz hSw
      go_simp
      all_goals (with_reducible rfl)
    try simp only [Act.put, List.setIfInBounds_toArray, List.set_cons_zero, List.set_cons_succ]
    refine wpAnyH_take (i := 2) (oi := { dst := some 74, op := Op.move (Operand.tmp 18), type := 31, pos := "law.go:198", after := #[], guard := none }) (v := ?_) rfl (by kernel_rfl) (by kernel_rfl) (by kernel_rfl) (fun _ _ _ h => h) (Or.inl ⟨by rfl, ?_⟩) hHeld ?_
    rotate_left
    · intro wz hSw
      go_simp
      all_goals (with_reducible rfl)
    try simp only [Act.put, List.setIfInBounds_toArray, List.set_cons_zero, List.set_cons_succ]
    refine wpAnyH_take (i := 3) (oi := { dst := some 75, op := Op.move (Operand.tmp 20), type := 3, pos := "law.go:198", after := #[], guard := none }) (v := ?_) rfl (by kernel_rfl) (by kernel_rfl) (by kernel_rfl) (fun _ _ _ h => h) (Or.inl ⟨by rfl, ?_⟩) hHeld ?_
    rotate_left
    · intro wz hSw
      go_simp
      all_goals (with_reducible rfl)
    try simp only [Act.put, List.setIfInBounds_toArray, List.set_cons_zero, List.set_cons_succ]
    refine wpAnyH_take (i := 4) (oi := { dst := some 76, op := Op.slice 31 (Operand.tmp 74) none (some (Operand.tmp 75)) none, type := 31, pos := "law.go:198", after := #[{ on := 2, ground := Ground.data }, { on := 3, ground := Ground.data }], guard := none }) (v := ?_) rfl (by kernel_rfl) (by kernel_rfl) (by kernel_rfl) (fun _ _ _ h => h) (Or.inl ⟨by rfl, ?_⟩) hHeld ?_
    rotate_left
    · intro wz hSw
      go_simp
      all_goals (with_reducible rfl)
    try simp only [Act.put, List.setIfInBounds_toArray, List.set_cons_zero, List.set_cons_succ]
    refine wpAnyH_ready (rs := [5, 9]) (by kernel_rfl) (by simp) ?_
    refine AllReadyH.cons (o := { dst := some 77, op := Op.call { callee := Callee.value (Operand.func 17), args := #[Operand.tmp 72, Operand.tmp 73, Operand.tmp 76], argTypes := #[27, 3, 31] }, type := 55, pos := "law.go:198", after := #[{ on := 0, ground := Ground.data }, { on := 1, ground := Ground.data }, { on := 4, ground := Ground.data }], guard := none }) rfl (fun K hK => ?_) (AllReadyH.cons (o := { dst := some 23, op := Op.alloc 46, type := 0, pos := "law.go:198", after := #[], guard := none }) rfl (fun K hK => ?_) AllReadyH.nil)
    case refine_1 =>
      rw [if_pos (by rfl)]
      show Oper.wp _ _ _ _ K _
      go_simp
      go_at_call 17
      refine (cZ'.out a8 c8 _ (HT'.out.below (hbw.out.trans (hHeld.mono hbw.out.size))) (hEk.out.below hHeld)).mono ?_
      rintro e wq ⟨rfl, hbq⟩
      refine hK.out _ _ (hHeld.trans (hbq.mono hHeld.size)) (fun hHeld => ?_)
      clear hbq
      clear hK K
      try simp only [Act.put, List.setIfInBounds_toArray, List.set_cons_zero, List.set_cons_succ]
      refine wpAnyH_take (i := 6) (oi := { dst := some 71, op := Op.move (Operand.tmp 77), type := 55, pos := "law.go:198", after := #[{ on := 5, ground := Ground.data }], guard := none }) (v := ?_) rfl (by kernel_rfl) (by kernel_rfl) (by kernel_rfl) (fun _ _ _ h => h) (Or.inl ⟨by rfl, ?_⟩) hHeld ?_
      rotate_left
      · intro wz hSw
        go_simp
        all_goals (with_reducible rfl)
      try simp only [Act.put, List.setIfInBounds_toArray, List.set_cons_zero, List.set_cons_succ]
      refine wpAnyH_take (i := 7) (oi := { dst := some 78, op := Op.extract (Operand.tmp 71) 0, type := 46, pos := "law.go:198", after := #[{ on := 6, ground := Ground.data }], guard := none }) (v := ?_) rfl (by kernel_rfl) (by kernel_rfl) (by kernel_rfl) (fun _ _ _ h => h) (Or.inl ⟨by rfl, ?_⟩) hHeld ?_
      rotate_left
      · intro wz hSw
        go_simp
        all_goals (with_reducible rfl)
      try simp only [Act.put, List.setIfInBounds_toArray, List.set_cons_zero, List.set_cons_succ]
      refine wpAnyH_take (i := 8) (oi := { dst := some 79, op := Op.extract (Operand.tmp 71) 1, type := 39, pos := "law.go:198", after := #[{ on := 6, ground := Ground.data }, { on := 10, ground := Ground.gcOnly Departure.lateStores }], guard := none }) (v := ?_) rfl (by kernel_rfl) (by kernel_rfl) (by kernel_rfl) (fun _ _ _ h => h) (Or.inl ⟨by rfl, ?_⟩) hHeld ?_
      rotate_left
      · intro wz hSw
        go_simp
        all_goals (with_reducible rfl)
      try simp only [Act.put, List.setIfInBounds_toArray, List.set_cons_zero, List.set_cons_succ]
      have hsz := hHeld.size
      refine wpAnyH_ready (rs := [9]) (by kernel_rfl) (by simp) ?_
      refine AllReadyH.cons (o := { dst := some 23, op := Op.alloc 46, type := 0, pos := "law.go:198", after := #[], guard := none }) rfl (fun K hK => ?_) AllReadyH.nil
      rw [if_pos (by rfl)]
      show Oper.wp _ _ _ _ K _
      go_simp
      refine hK.out _ _ (hHeld.alloc hHeld.size _) (fun hHeld => ?_)
      clear hK K
      try simp only [Act.put, List.setIfInBounds_toArray, List.set_cons_zero, List.set_cons_succ]
      have hB2 : Blk (wq.alloc (.cells zrH.toArray 46)) wq.heap.size 46 zrH := Blk.new wq _ _
      obtain ⟨W3, hQ⟩ := put_row (ty := 46) hB2 (x := hdC hZ) (by rw [hdC_len okZ]; rfl) (by rw [hdC_len okZ]; exact sizeH) (hdC_r okZ).one
      have hb3 := below_grown hHeld hQ.grown hHeld.size (hsz)
      refine wpAnyH_ready (rs := [10]) (by kernel_rfl) (by simp) ?_
      refine AllReadyH.cons (o := { dst := none, op := Op.store 46 (Operand.tmp 23) (Operand.tmp 78), type := 0, pos := "law.go:198", after := #[{ on := 9, ground := Ground.data }, { on := 7, ground := Ground.data }, { on := 5, ground := Ground.chain }, { on := 0, ground := Ground.phase }, { on := 1, ground := Ground.phase }, { on := 2, ground := Ground.phase }, { on := 3, ground := Ground.phase }, { on := 4, ground := Ground.phase }, { on := 5, ground := Ground.phase }, { on := 6, ground := Ground.phase }, { on := 7, ground := Ground.phase }, { on := 8, ground := Ground.textOnly Departure.lateStores }, { on := 9, ground := Ground.phase }], guard := none }) rfl (fun K hK => ?_) AllReadyH.nil
      rw [if_pos (by rfl)]
      refine wp_store_mid 46 _ _ rfl wq.heap.size 0 (hdC hZ).toArray (by rfl) (by rfl) hQ.there hQ.info (by simpa using hQ.one) ?_
      generalize hWq : World.setCells _ _ _ _ = Wa
      obtain rfl : W3 = Wa := by rw [← hWq]; exact hQ.eq
      clear hWq
      refine hK.out _ _ hb3 (fun hHeld => ?_)
      clear hK K
      try simp only [Act.put]
      refine wpAnyH_take (i := 11) (oi := { dst := some 24, op := Op.assign (Operand.tmp 79), type := 39, pos := "law.go:198", after := #[{ on := 8, ground := Ground.data }, { on := 10, ground := Ground.chain }, { on := 0, ground := Ground.phase }, { on := 1, ground := Ground.phase }, { on := 2, ground := Ground.phase }, { on := 3, ground := Ground.phase }, { on := 4, ground := Ground.phase }, { on := 5, ground := Ground.phase }, { on := 6, ground := Ground.phase }, { on := 7, ground := Ground.phase }, { on := 8, ground := Ground.phase }, { on := 9, ground := Ground.phase }, { on := 10, ground := Ground.phase }], guard := none }) (v := ?_) rfl (by kernel_rfl) (by kernel_rfl) (by kernel_rfl) (fun _ _ _ h => h) (Or.inl ⟨by rfl, ?_⟩) hHeld ?_
      rotate_left
      · intro wz hSw
        go_simp
        all_goals (with_reducible rfl)
      try simp only [Act.put, List.setIfInBounds_toArray, List.set_cons_zero, List.set_cons_succ]
      refine wpAnyH_done (by kernel_rfl) ?_ _
      obtain ⟨q, hq⟩ : ∃ q, Hid (wq.heap.size = q) := ⟨_, rfl⟩
      have hbk := hQ.blk
      rw [hq.out] at hbk
      rw [hq.out]
      exact key'.out q W3 ⟨hbk, hHeld⟩
    case refine_2 =>
      rw [if_pos (by rfl)]
      show Oper.wp _ _ _ _ K _
      go_simp
      refine hK.out _ _ (hHeld.alloc hHeld.size _) (fun hHeld => ?_)
      clear hK K
      try simp only [Act.put, List.setIfInBounds_toArray, List.set_cons_zero, List.set_cons_succ]
      have hB : Blk (w6.drew.alloc (.cells zrH.toArray 46)) w6.heap.size 46 zrH := Blk.new w6.drew _ _
      refine wpAnyH_ready (rs := [5]) (by kernel_rfl) (by simp) ?_
      refine AllReadyH.cons (o := { dst := some 77, op := Op.call { callee := Callee.value (Operand.func 17), args := #[Operand.tmp 72, Operand.tmp 73, Operand.tmp 76], argTypes := #[27, 3, 31] }, type := 55, pos := "law.go:198", after := #[{ on := 0, ground := Ground.data }, { on := 1, ground := Ground.data }, { on := 4, ground := Ground.data }], guard := none }) rfl (fun K hK => ?_) AllReadyH.nil
      rw [if_pos (by rfl)]
      show Oper.wp _ _ _ _ K _
      go_simp
      go_at_call 17
      refine (cZ'.out a8 c8 _ (HT'.out.below (hbw.out.trans (hHeld.mono hbw.out.size))) (hEk.out.below hHeld)).mono ?_
      rintro e wq ⟨rfl, hbq⟩
      have hB2 := hB.below hbq hB.lt
      refine hK.out _ _ (hHeld.trans (hbq.mono hHeld.size)) (fun hHeld => ?_)
      clear hbq
      clear hK K
      try simp only [Act.put, List.setIfInBounds_toArray, List.set_cons_zero, List.set_cons_succ]
      refine wpAnyH_take (i := 6) (oi := { dst := some 71, op := Op.move (Operand.tmp 77), type := 55, pos := "law.go:198", after := #[{ on := 5, ground := Ground.data }], guard := none }) (v := ?_) rfl (by kernel_rfl) (by kernel_rfl) (by kernel_rfl) (fun _ _ _ h => h) (Or.inl ⟨by rfl, ?_⟩) hHeld ?_
      rotate_left
      · intro wz hSw
        go_simp
        all_goals (with_reducible rfl)
      try simp only [Act.put, List.setIfInBounds_toArray, List.set_cons_zero, List.set_cons_succ]
      refine wpAnyH_take (i := 7) (oi := { dst := some 78, op := Op.extract (Operand.tmp 71) 0, type := 46, pos := "law.go:198", after := #[{ on := 6, ground := Ground.data }], guard := none }) (v := ?_) rfl (by kernel_rfl) (by kernel_rfl) (by kernel_rfl) (fun _ _ _ h => h) (Or.inl ⟨by rfl, ?_⟩) hHeld ?_
      rotate_left
      · intro wz hSw
        go_simp
        all_goals (with_reducible rfl)
      try simp only [Act.put, List.setIfInBounds_toArray, List.set_cons_zero, List.set_cons_succ]
      refine wpAnyH_take (i := 8) (oi := { dst := some 79, op := Op.extract (Operand.tmp 71) 1, type := 39, pos := "law.go:198", after := #[{ on := 6, ground := Ground.data }, { on := 10, ground := Ground.gcOnly Departure.lateStores }], guard := none }) (v := ?_) rfl (by kernel_rfl) (by kernel_rfl) (by kernel_rfl) (fun _ _ _ h => h) (Or.inl ⟨by rfl, ?_⟩) hHeld ?_
      rotate_left
      · intro wz hSw
        go_simp
        all_goals (with_reducible rfl)
      try simp only [Act.put, List.setIfInBounds_toArray, List.set_cons_zero, List.set_cons_succ]
      obtain ⟨W3, hQ⟩ := put_row (ty := 46) hB2 (x := hdC hZ) (by rw [hdC_len okZ]; rfl) (by rw [hdC_len okZ]; exact sizeH) (hdC_r okZ).one
      have hb3 := below_grown hHeld hQ.grown hHeld.size (Nat.le_refl _)
      refine wpAnyH_ready (rs := [10]) (by kernel_rfl) (by simp) ?_
      refine AllReadyH.cons (o := { dst := none, op := Op.store 46 (Operand.tmp 23) (Operand.tmp 78), type := 0, pos := "law.go:198", after := #[{ on := 9, ground := Ground.data }, { on := 7, ground := Ground.data }, { on := 5, ground := Ground.chain }, { on := 0, ground := Ground.phase }, { on := 1, ground := Ground.phase }, { on := 2, ground := Ground.phase }, { on := 3, ground := Ground.phase }, { on := 4, ground := Ground.phase }, { on := 5, ground := Ground.phase }, { on := 6, ground := Ground.phase }, { on := 7, ground := Ground.phase }, { on := 8, ground := Ground.textOnly Departure.lateStores }, { on := 9, ground := Ground.phase }], guard := none }) rfl (fun K hK => ?_) AllReadyH.nil
      rw [if_pos (by rfl)]
      refine wp_store_mid 46 _ _ rfl w6.heap.size 0 (hdC hZ).toArray (by rfl) (by rfl) hQ.there hQ.info (by simpa using hQ.one) ?_
      generalize hWq : World.setCells _ _ _ _ = Wa
      obtain rfl : W3 = Wa := by rw [← hWq]; exact hQ.eq
      clear hWq
      refine hK.out _ _ hb3 (fun hHeld => ?_)
      clear hK K
      try simp only [Act.put]
      refine wpAnyH_take (i := 11) (oi := { dst := some 24, op := Op.assign (Operand.tmp 79), type := 39, pos := "law.go:198", after := #[{ on := 8, ground := Ground.data }, { on := 10, ground := Ground.chain }, { on := 0, ground := Ground.phase }, { on := 1, ground := Ground.phase }, { on := 2, ground := Ground.phase }, { on := 3, ground := Ground.phase }, { on := 4, ground := Ground.phase }, { on := 5, ground := Ground.phase }, { on := 6, ground := Ground.phase }, { on := 7, ground := Ground.phase }, { on := 8, ground := Ground.phase }, { on := 9, ground := Ground.phase }, { on := 10, ground := Ground.phase }], guard := none }) (v := ?_) rfl (by kernel_rfl) (by kernel_rfl) (by kernel_rfl) (fun _ _ _ h => h) (Or.inl ⟨by rfl, ?_⟩) hHeld ?_
      rotate_left
      · intro wz hSw
        go_simp
        all_goals (with_reducible rfl)
      try simp only [Act.put, List.setIfInBounds_toArray, List.set_cons_zero, List.set_cons_succ]
      refine wpAnyH_done (by kernel_rfl) ?_ _
      obtain ⟨q, hq⟩ : ∃ q, Hid (w6.heap.size = q) := ⟨_, rfl⟩
      have hbk := hQ.blk
      have hH2 := Lib.hid hHeld
      rw [hq.out] at hbk
      rw [hq.out]
      exact key'.out q W3 ⟨hbk, hH2.out⟩
  case key9 =>
  intro g2 w7 hR
  have hBK := Lib.hid hR.1
  have hst := hR.2
  clear hR hEk s0 s1 s2 glt
  replace hBs := Lib.hid (hBs.out.below hst hBs.out.lt)
  replace hE := Lib.hid (hE.out.below hst)
  replace hBA := Lib.hid (hBA.out.below hst hBA.out.lt)
  replace hbw := Lib.hid (hbw.out.trans (hst.mono hbw.out.size))
  clear hst
  go_wp2_with fail
  refine (digs_at _ (hE.out.take hk)).mono ?_
  rintro e w8 ⟨oa, oc, rfl, hD0, hst⟩
  have hO := Lib.hid hD0
  clear hD0 hsl
  replace hBs := Lib.hid (hBs.out.below hst hBs.out.lt)
  replace hE := Lib.hid (hE.out.below hst)
  replace hBA := Lib.hid (hBA.out.below hst hBA.out.lt)
  replace hBK := Lib.hid (hBK.out.below hst hBK.out.lt)
  replace hbw := Lib.hid (hbw.out.trans (hst.mono hbw.out.size))
  clear hst
  have hP : Hid (∀ j, (es.take j).map (fun e : Ent => e.dig) = (es.map (fun e : Ent => e.dig)).take j) := fun j => List.map_take
  have hPl : Hid ((es.map (fun e : Ent => e.dig)).length = tn) := by show _ = _; rw [List.length_map]; exact hel.out
  obtain ⟨P, hPP⟩ : ∃ P, Hid (es.map (fun e : Ent => e.dig) = P) := ⟨_, rfl⟩
  rw [hPP.out] at hP hPl
  rw [hP.out] at hO sA' sZ'
  clear hPP
  have hfb := fun W => fork_build okA okZ (P.take k) oa k oc W
  have hfb2 := fun W => fork_build okA okZ D da dn dc W
  have hri := infoHd okA
  have hrj := infoHd okZ
  have hra := Lib.hid hBA.out.range
  have hrb := Lib.hid hBK.out.range
  go_wp2_with (first
    | (refine wpList_load_g (by rfl) 46 _ (by rfl) g1 0 (by rfl) (hdC hA) _ hra.out Tryd.underlying46 (by rfl) hri.out ?_)
    | (refine wpList_load_g (by rfl) 46 _ (by rfl) g2 0 (by rfl) (hdC hZ) _ hrb.out Tryd.underlying46 (by rfl) hrj.out ?_)
    | (refine wpList_build_run (by rfl) 48 _ rfl #[(0, .agg (hdC hA).toArray), (1, .agg (hdC hZ).toArray), (2, .slice oa k oc)] (by simp only [List.map_toArray, List.map_cons, List.map_nil]; rfl) (hfb _) ?_))
  have hck := prove_any q hpq64.out (⟨hA, hZ, P.take k⟩ : Fk) ⟨okA, okZ⟩ oa k oc _ (HT'.out.below hbw.out) hO.out (by omega)
  rw [Go.Vw.prove_own (D := P) (m := m) (n := k) (by rw [hPl.out]; exact hm) (by rw [hPl.out]; exact hk) sA'.out sZ'.out] at hck
  refine hck.mono ?_
  rintro e w9 ⟨rfl, hst⟩
  clear hck hfb hra hrb
  replace hBs := Lib.hid (hBs.out.below hst hBs.out.lt)
  replace hE := Lib.hid (hE.out.below hst)
  replace hBA := Lib.hid (hBA.out.below hst hBA.out.lt)
  replace hBK := Lib.hid (hBK.out.below hst hBK.out.lt)
  replace hO := Lib.hid (hO.out.below hst)
  replace hbw := Lib.hid (hbw.out.trans (hst.mono hbw.out.size))
  clear hst
  have hra := Lib.hid hBA.out.range
  have hrb := Lib.hid hBK.out.range
  go_wp2_with (first
    | (refine wpList_load_g (by rfl) 46 _ (by rfl) g1 0 (by rfl) (hdC hA) _ hra.out Tryd.underlying46 (by rfl) hri.out ?_)
    | (refine wpList_load_g (by rfl) 46 _ (by rfl) g2 0 (by rfl) (hdC hZ) _ hrb.out Tryd.underlying46 (by rfl) hrj.out ?_)
    | (refine wpList_build_run (by rfl) 48 _ rfl #[(0, .agg (hdC hA).toArray), (1, .agg (hdC hZ).toArray), (2, .slice da dn dc)] (by simp only [List.map_toArray, List.map_cons, List.map_nil]; rfl) (hfb2 _) ?_))
  have hck := prove_any q hpq64.out (⟨hA, hZ, D⟩ : Fk) ⟨okA, okZ⟩ da dn dc _ (HT'.out.below hbw.out) (HD'.out.below hbw.out) (by omega)
  have hoth := Lib.hid (fun hp : proveV q ⟨hA, hZ, D⟩ = 0 => Go.Vw.prove_other sZ'.out hp)
  have hown := Lib.hid (Go.Vw.prove_own (D := P) (m := m) (n := k) (by rw [hPl.out]; exact hm) (by rw [hPl.out]; exact hk) sA'.out sZ'.out)
  have hne := Lib.hid (show proveV q ⟨hA, hZ, D⟩ = 0 → D ≠ P.take k from fun h e => by rw [e, hown.out] at h; cases h)
  obtain ⟨V, hV⟩ : ∃ V, Hid (proveV q ⟨hA, hZ, D⟩ = V) := ⟨_, rfl⟩
  rw [hV.out] at hck hoth hne
  clear hV hown
  refine hck.mono ?_
  rintro e w10 ⟨rfl, hst⟩
  clear hck hfb2 hra hrb
  replace hBs := Lib.hid (hBs.out.below hst hBs.out.lt)
  replace hE := Lib.hid (hE.out.below hst)
  replace hBA := Lib.hid (hBA.out.below hst hBA.out.lt)
  replace hBK := Lib.hid (hBK.out.below hst hBK.out.lt)
  replace hO := Lib.hid (hO.out.below hst)
  replace hbw := Lib.hid (hbw.out.trans (hst.mono hbw.out.size))
  clear hst
  by_cases hv0 : V = 0
  case neg =>
    have g3 : (V != 0) = true := by simpa using hv0
    have hf := Lib.hid (hfin.out _ hbw.out)
    clear hv0
    go_wp2_with fail
    exact hf.out
  case pos =>
  subst hv0
  obtain ⟨hl1, hc1⟩ := hoth.out rfl
  have hne' := hne.out rfl
  have hdk : dn = k := by
    rw [List.length_take, hPl.out, Nat.min_eq_left hk, hDlen] at hl1
    exact hl1
  subst hdk
  have hc1' := Lib.hid hc1
  have hne'' := Lib.hid hne'
  clear hoth hne hl1 hc1 hne'
  go_wp2_with fail
  have hck := sameD_any da dn dc D oa dn oc (P.take dn) _ (HD'.out.below hbw.out) hO.out
  rw [decide_eq_false hne''.out] at hck
  refine hck.mono ?_
  rintro e w11 ⟨rfl, hst⟩
  clear hck
  replace hBs := Lib.hid (hBs.out.below hst hBs.out.lt)
  replace hE := Lib.hid (hE.out.below hst)
  replace hBA := Lib.hid (hBA.out.below hst hBA.out.lt)
  replace hBK := Lib.hid (hBK.out.below hst hBK.out.lt)
  replace hO := Lib.hid (hO.out.below hst)
  replace hbw := Lib.hid (hbw.out.trans (hst.mono hbw.out.size))
  clear hst
  go_wp2_with fail
  refine (storeChain_any fo ifo da dn dc D _ (HT'.out.below hbw.out) (HD'.out.below hbw.out)).mono ?_
  rintro e w12 ⟨rfl, hst⟩
  replace hBs := Lib.hid (hBs.out.below hst hBs.out.lt)
  replace hE := Lib.hid (hE.out.below hst)
  replace hBA := Lib.hid (hBA.out.below hst hBA.out.lt)
  replace hBK := Lib.hid (hBK.out.below hst hBK.out.lt)
  replace hO := Lib.hid (hO.out.below hst)
  replace hbw := Lib.hid (hbw.out.trans (hst.mono hbw.out.size))
  clear hst
  go_wp2_with fail
  have hck := storeChain_any fo ifo oa dn oc (P.take dn) _ (HT'.out.below hbw.out) hO.out
  rw [← hc1'.out] at hck
  refine hck.mono ?_
  rintro e w13 ⟨rfl, hst⟩
  clear hck
  replace hBs := Lib.hid (hBs.out.below hst hBs.out.lt)
  replace hE := Lib.hid (hE.out.below hst)
  replace hBA := Lib.hid (hBA.out.below hst hBA.out.lt)
  replace hBK := Lib.hid (hBK.out.below hst hBK.out.lt)
  replace hO := Lib.hid (hO.out.below hst)
  replace hbw := Lib.hid (hbw.out.trans (hst.mono hbw.out.size))
  clear hst
  have hcl := chain_len fo D
  have heq := fun W => eq_digs hcl hcl W
  rw [decide_eq_true (rfl : chainD fo D = chainD fo D)] at heq
  generalize chainD fo D = ch at *
  have hf := Lib.hid (hfin.out _ hbw.out)
  go_wp2_with fail
  exact hf.out
end Go.Proofs.YtiionehcmoginaaDoor
namespace Go.Proofs.YtiionehcmoginaaDoor.lawInnocent
open Go.ChangeShapes Go.WideShapes Go.ChangeAt Go.RowKit Go.Mem
open Go.Proofs.YtiionehcmoginaaDoor

set_option maxRecDepth 100000 in
theorem lifted (os : Os) (started : os.Started) (H : Type) (enc : TypeId × Value → H) :
    ReturnsInHanded {} Tryd.checked os 5 .any (fun w args => (Rows.viewsInnocentSpec.pre enc Tryd.prog Tryd.f5 [] false w args ∧ laidMetH Tryd.prog laid2 w) ∧ sizedMet enc Tryd.prog Tryd.f5 (OpenSpec.ofChange Rows.viewsInnocentSpec) false w args)
      (Rows.viewsInnocentSpec.post enc Tryd.prog Tryd.f5 false true false false) := by
  refine returnsInHanded_of_change_and (C := Tryd.checked) (X := fun w _ => laidMetH Tryd.prog laid2 w) (fun _ _ _ hh h => h.of_heap hh) own started (by kernel_rfl) Tryd.func5
    (ChangeSpec.witness_shaped (enc := enc) (C := Tryd.checked) (os := os) (X := fun w _ => laidMetH Tryd.prog laid2 w) false (World.doorLaid Tryd.prog 400 os) #[.int .i64 0, .int .i64 0, .int .i64 0, .slice none 0 0, .int .u8 0, .int .u8 0, .slice none 0 0] 8 rfl (World.shaped_of_RefB (by kernel_rfl) (by kernel_rfl)) (by kernel_rfl) (by kernel_rfl) (by kernel_rfl) (door_met os _)) ?_
  intro W base args ds gs before hval0 hW _ hwt hL _
  have hval : ∀ (j : Nat) t v, Tryd.f5.params[j]? = some t → args[j]? = some v → Value.okWide Tryd.prog W .any base t v := hval0
  have hW' := hW
  obtain ⟨p, q, hA0, hV, rfl, hfz, hnd⟩ := hW
  have hA : DataW.TrodAll enc Tryd.prog W 0 (fun _ => true) true Tryd.f5.params.toList args.toList ds p := hA0
  rw [Tryd.params5] at hA hval
  obtain ⟨v0, vs0, d0, ds0, p0, q0, hargs, rfl, rfl, h0, r0⟩ := trodAll_cons hA
  obtain ⟨v1, vs1, d1, ds1, p1, q1, rfl, rfl, rfl, h1, r1⟩ := trodAll_cons r0
  obtain ⟨v2, vs2, d2, ds2, p2, q2, rfl, rfl, rfl, h2, r2⟩ := trodAll_cons r1
  obtain ⟨v3, vs3, d3, ds3, p3, q3, rfl, rfl, rfl, h3, r3⟩ := trodAll_cons r2
  obtain ⟨v4, vs4, d4, ds4, p4, q4, rfl, rfl, rfl, h4, r4⟩ := trodAll_cons r3
  obtain ⟨v5, vs5, d5, ds5, p5, q5, rfl, rfl, rfl, h5, r5⟩ := trodAll_cons r4
  obtain ⟨v6, vs6, d6, ds6, p6, q6, rfl, rfl, rfl, h6, r6⟩ := trodAll_cons r5
  obtain ⟨rfl, rfl, rfl⟩ := trodAll_nil r6
  obtain rfl : args = #[v0, v1, v2, v3, v4, v5, v6] := by cases args; simp_all
  obtain ⟨rfl, rfl⟩ := trodVars_none hV
  have lt0 : ∀ x ∈ p0, x.block < W.heap.size := by obtain ⟨m, hm⟩ := h0; exact DataW.trod_lt m _ _ _ hm
  have lt1 : ∀ x ∈ p1, x.block < W.heap.size := by obtain ⟨m, hm⟩ := h1; exact DataW.trod_lt m _ _ _ hm
  have lt2 : ∀ x ∈ p2, x.block < W.heap.size := by obtain ⟨m, hm⟩ := h2; exact DataW.trod_lt m _ _ _ hm
  have lt3 : ∀ x ∈ p3, x.block < W.heap.size := by obtain ⟨m, hm⟩ := h3; exact DataW.trod_lt m _ _ _ hm
  have lt4 : ∀ x ∈ p4, x.block < W.heap.size := by obtain ⟨m, hm⟩ := h4; exact DataW.trod_lt m _ _ _ hm
  have lt5 : ∀ x ∈ p5, x.block < W.heap.size := by obtain ⟨m, hm⟩ := h5; exact DataW.trod_lt m _ _ _ hm
  have lt6 : ∀ x ∈ p6, x.block < W.heap.size := by obtain ⟨m, hm⟩ := h6; exact DataW.trod_lt m _ _ _ hm
  have k0' := h0
  have k1' := h1
  have k2' := h2
  have k3' := h3
  have k4' := h4
  have k5' := h5
  have k6' := h6
  rw [Tryd.params5] at hwt
  simp only [List.cons_append, List.nil_append, DataW.weightsEach, List.all_append, Bool.and_eq_true] at hwt
  obtain ⟨x0, rfl⟩ := okWide_int Tryd.underlying3 (hval 0 3 v0 rfl rfl)
  obtain ⟨m0, hm0⟩ := h0
  obtain ⟨x0', e0, i0⟩ := open_int1 (cs := [.int .i64 x0]) (by simpa [Value.cells] using hm0)
  obtain rfl : x0 = x0' := by simpa using e0
  clear hm0 e0
  obtain ⟨x1, rfl⟩ := okWide_int Tryd.underlying3 (hval 1 3 v1 rfl rfl)
  obtain ⟨m1, hm1⟩ := h1
  obtain ⟨x1', e1, i1⟩ := open_int1 (cs := [.int .i64 x1]) (by simpa [Value.cells] using hm1)
  obtain rfl : x1 = x1' := by simpa using e1
  clear hm1 e1
  obtain ⟨x2, rfl⟩ := okWide_int Tryd.underlying3 (hval 2 3 v2 rfl rfl)
  obtain ⟨m2, hm2⟩ := h2
  obtain ⟨x2', e2, i2⟩ := open_int1 (cs := [.int .i64 x2]) (by simpa [Value.cells] using hm2)
  obtain rfl : x2 = x2' := by simpa using e2
  clear hm2 e2
  obtain ⟨a3, n3, c3, rfl⟩ := okWide_slice Tryd.underlying22 (hval 3 22 v3 rfl rfl)
  obtain ⟨m3, hm3⟩ := h3
  obtain ⟨_, _, _, l3, e3, S3, B3'⟩ := open_strs (cs := [.slice a3 n3 c3]) (by simpa [Value.cells] using hm3)
  simp only [List.cons.injEq, Value.slice.injEq, and_true] at e3
  obtain ⟨rfl, rfl, rfl⟩ := e3
  have B3 := B3' (hwt.2.2.2.1)
  clear hm3
  obtain ⟨z4, rfl⟩ := okWide_int Tryd.underlying5 (hval 4 5 v4 rfl rfl)
  obtain ⟨m4, hm4⟩ := h4
  obtain ⟨x4, e4, i4⟩ := open_u8 (cs := [.int .u8 z4]) (by simpa [Value.cells] using hm4)
  obtain rfl : z4 = (x4 : Int) := by simpa using e4
  clear hm4 e4
  obtain ⟨z5, rfl⟩ := okWide_int Tryd.underlying5 (hval 5 5 v5 rfl rfl)
  obtain ⟨m5, hm5⟩ := h5
  obtain ⟨x5, e5, i5⟩ := open_u8 (cs := [.int .u8 z5]) (by simpa [Value.cells] using hm5)
  obtain rfl : z5 = (x5 : Int) := by simpa using e5
  clear hm5 e5
  obtain ⟨a6, n6, c6, rfl⟩ := okWide_slice Tryd.underlying33 (hval 6 33 v6 rfl rfl)
  obtain ⟨m6, hm6⟩ := h6
  obtain ⟨_, _, _, l6, e6, S6⟩ := open_digs (cs := [.slice a6 n6 c6]) (by simpa [Value.cells] using hm6)
  simp only [List.cons.injEq, Value.slice.injEq, and_true] at e6
  obtain ⟨rfl, rfl, rfl⟩ := e6
  clear hm6
  have hT := tabs_of_laid hL
  clear hA0 hval0
  refine (innocent_walk x0 i0 x1 i1 x2 i2 a3 n3 c3 l3 x4 i4 x5 i5 a6 n6 c6 l6 W hT S3 S6 B3).mono fun e W' ⟨he, bel⟩ => ?_
  subst he
  exact ⟨_, rfl, _, _, _, [], _, [], hW', trodAll_mk1 (shut_bool Tryd.underlying4 _),
    (trodAll_cons_mk (Below.trod laidOut (by kernel_rfl) (of_decide_eq_true (by kernel_rfl)) k0' bel lt0) (trodAll_cons_mk (Below.trod laidOut (by kernel_rfl) (of_decide_eq_true (by kernel_rfl)) k1' bel lt1) (trodAll_cons_mk (Below.trod laidOut (by kernel_rfl) (of_decide_eq_true (by kernel_rfl)) k2' bel lt2) (trodAll_cons_mk (Below.trod laidOut (by kernel_rfl) (of_decide_eq_true (by kernel_rfl)) k3' bel lt3) (trodAll_cons_mk (Below.trod laidOut (by kernel_rfl) (of_decide_eq_true (by kernel_rfl)) k4' bel lt4) (trodAll_cons_mk (Below.trod laidOut (by kernel_rfl) (of_decide_eq_true (by kernel_rfl)) k5' bel lt5) (trodAll_cons_mk (Below.trod laidOut (by kernel_rfl) (of_decide_eq_true (by kernel_rfl)) k6' bel lt6) trodAll_mk0))))))), rfl, bel.frame _, fun h => by cases h⟩

theorem over : Rows.ViewsInnocentSaid :=
  OpenClaim.holds_of_wide 5 Tryd.f5 rfl rfl rfl rfl rfl rfl rfl ⟨rfl, rfl, rfl, rfl, rfl⟩ rfl rfl rfl rfl rfl (by kernel_rfl) Tryd.func5 (by kernel_rfl)
    (of_decide_eq_true (by kernel_rfl)) (by unfold Func.isWrapper; first | (rw [if_pos (by decide +kernel)]; kernel_rfl) | (rw [if_neg (by decide +kernel)]; exact ⟨rfl, rfl⟩))
    (fun os started H enc _ => lifted os started H enc)

theorem proved : Rows.ViewsInnocentCardSaid :=
  Claim7.holds_tied_plain_at .later [] [.data, .data] true (true, "608cd0720f91ff3ad574156353b6f30fe2f73723675f14731deb4c629b150d9f") false
    over (fun _ h => by cases h) (by kernel_rfl) (fun _ h => by cases h) viewsInnocent_row_tie rfl ⟨rfl, rfl⟩ (by kernel_rfl) rfl
    (fun f fn hf hfn => by
      obtain rfl : f = 5 := Option.some.inj ((show Tryd.prog.funcNamed "chartroom/chartroomlaw32.ViewsInnocent" = some 5 by kernel_rfl).symm.trans hf) |>.symm
      obtain rfl : fn = Tryd.f5 := (Option.some.inj (Tryd.func5.symm.trans hfn)).symm
      exact ⟨by kernel_rfl, fun j t ht => by
        rw [Tryd.params5] at ht
        have hm : t ∈ [3, 3, 3, 22, 5, 5, 33] := by simpa using Array.mem_of_getElem? ht
        have hall : ([3, 3, 3, 22, 5, 5, 33].all fun u => !Tryd.prog.wantsStandIn u) = true := by kernel_rfl
        exact (show Tryd.prog.wantsStandIn t = false by simpa using List.all_eq_true.1 hall t hm)⟩)
    (by kernel_rfl)
#print axioms proved
end Go.Proofs.YtiionehcmoginaaDoor.lawInnocent

