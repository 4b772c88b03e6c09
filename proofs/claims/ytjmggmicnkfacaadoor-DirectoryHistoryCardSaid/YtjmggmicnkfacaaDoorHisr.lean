/- the reference's Key; the law DirectoryHistory walked -/
import Derived.Test.YtjmggmicnkfacaaDoorSnd
import Derived.Test.YtjmggmicnkfacaaDoorOpd
import Derived.Test.YtjmggmicnkfacaaDoorCards
import Derived.Test.YtjmggmicnkfacaaDoorTie
import Derived.SevenTiedAt
import Derived.Deep.DeepHandedRow
import Derived.Deep.DeepWitnessRowRef
namespace Go.Proofs.YtjmggmicnkfacaaDoor
open Go.RowKit Go.Mem
open Go.Dr (Lst Rt Dir exL)

theorem and62 (x : Int) : 0 ≤ bits BinOp.and IntKind.i64 x 4611686018427387903 ∧ bits BinOp.and IntKind.i64 x 4611686018427387903 ≤ 4611686018427387903 := by
  have h : (BitVec.ofInt 64 x &&& BitVec.ofInt 64 4611686018427387903).toNat ≤ 4611686018427387903 := by
    rw [BitVec.toNat_and, show (BitVec.ofInt 64 4611686018427387903).toNat = 4611686018427387903 by decide]
    exact Nat.and_le_right
  have e : bits BinOp.and IntKind.i64 x 4611686018427387903 = IntKind.i64.wrap ((BitVec.ofInt 64 x &&& BitVec.ofInt 64 4611686018427387903).toNat : Int) := rfl
  rw [e, IntWalk.i64_in _ (by omega)]
  omega
set_option maxHeartbeats 1000000 in
theorem rkey_any (x : Int) (w : World) : Calls Tryd.prog 13 #[.int .i64 x] w (fun e w' => ∃ k : Int, e = .returned (.int .i64 k) ∧ 1 ≤ k ∧ k < 2305843009213688669 ∧ w' = w) := by
  obtain ⟨m, hm⟩ : ∃ m, bits BinOp.and IntKind.i64 x 4611686018427387903 = m := ⟨_, rfl⟩
  have hb := and62 x
  rw [hm] at hb
  obtain ⟨t, ht⟩ : ∃ t, Int.tmod m 2305843009213688669 = t := ⟨_, rfl⟩
  have htb : 0 ≤ t ∧ t < 2305843009213688669 := by rw [← ht]; exact ⟨Int.tmod_nonneg _ hb.1, Int.tmod_lt_of_pos _ (by decide)⟩
  obtain ⟨u, hu⟩ : ∃ u, Int.tmod t 2305843009213688668 = u := ⟨_, rfl⟩
  have hub : 0 ≤ u ∧ u < 2305843009213688668 := by rw [← hu]; exact ⟨Int.tmod_nonneg _ htb.1, Int.tmod_lt_of_pos _ (by decide)⟩
  have w1 : IntKind.i64.wrap t = t := IntWalk.i64_in _ (by omega)
  have w2 : IntKind.i64.wrap u = u := IntWalk.i64_in _ (by omega)
  have w3 : IntKind.i64.wrap (1 + u) = 1 + u := IntWalk.i64_in _ (by omega)
  have hof : Hid (∀ W, Calls Tryd.prog 30 #[.int .i64 x] W (fun e w' => e = .returned (.int .i64 t) ∧ w' = W)) := fun W => by
    go_enter Tryd.func30, Tryd.ntmps30
    go_wp2_with fail
    go_returns
    exact ⟨rfl, rfl⟩
  clear hm ht hb
  go_enter Tryd.func13, Tryd.ntmps13
  go_wp2_with fail
  refine (hof.out _).mono ?_
  rintro e w1 ⟨rfl, rfl⟩
  go_wp2_with fail
  go_returns
  exact ⟨1 + u, rfl, by omega, by omega, rfl⟩

theorem tick_at {D : Dir} {la : Option Addr} {ln lc : Nat} {ra : Option Addr} {rn rc : Nat} {w : World} {K : Nat → Prop} (hk : keyOk D.priv = true) (hc : Go.Dr.chkL D.ls = true) (hl : D.rs.length < 65536) (HT : Tabs w) (H : DM K w D la ln lc ra rn rc) :
    Calls Tryd.prog 17 #[.agg (dirC D.priv la ln lc ra rn rc).toArray] w (fun e w' => ∃ b d, e = .returned (.tuple #[.agg (dirC D.priv la ln lc b (rn + 1) d).toArray, .int .i64 0]) ∧ QS (fun b => w.heap.size ≤ b) w' b (rn + 1) d (D.rs ++ [Go.Dr.nextR 4 D]) ∧ Below w.heap.size w w') := by
  refine (tick_ok K D la ln lc ra rn rc w HT H hk hc hl).mono ?_
  rintro e w' ⟨a, n, c, rfl, hQ, hb⟩
  obtain rfl : rn + 1 = n := by have h1 := RS.len hQ; have h2 := RS.len H.qs; rw [List.length_append] at h1; simp at h1; omega
  exact ⟨a, c, rfl, hQ, hb⟩
/-- what the first loop keeps. -/
structure HisI (k : Int) (db : Nat) (w wr : World) (i m : Nat) (D : Dir) (la : Option Addr) (ln lc : Nat) (ra : Option Addr) (rn rc : Nat) : Prop where
  blk : Blk wr db 45 (dirC D.priv la ln lc ra rn rc)
  gs : GS (fun b => db < b) wr la ln lc D.ls
  qs : QS (fun b => db < b) wr ra rn rc D.rs
  bel : Below w.heap.size w wr
  hs : Go.Dr.Hs 4 k D
  len : D.rs.length = m
  le : m ≤ i

set_option maxRecDepth 100000 in
set_option maxHeartbeats 20000000 in
theorem history_walk (number : Int) (_hn : I64 number) (a : Option Addr) (n c : Nat) (l : List Lst) (ticks : Nat) (htk : ticks < 256) (w : World) (HT : Tabs w) (H : GS (fun _ => True) w a n c l) :
    Calls Tryd.prog 5 #[.int .i64 number, .slice a n c, .int .u8 (ticks : Int)] w (RetBo true w) := by
  have HT' := Lib.hid HT
  have hlen := RS.len H
  have n63 : (n : Int) ≤ 9223372036854775807 := by have := RS.le H; have := RS.max H; omega
  have hG := Lib.hid H
  have hG0 := Lib.hid H
  clear HT H
  obtain ⟨X, hX⟩ : ∃ X, X = RetBo true w := ⟨_, rfl⟩
  have hfin : Hid (∀ W, Below w.heap.size w W → X (.returned (.bool true)) W) := fun W hb => by rw [hX]; exact ⟨rfl, hb⟩
  rw [← hX]
  clear hX
  go_enter Tryd.func5, Tryd.ntmps5
  go_wp2_with fail
  refine (sane35_any w HT'.out).mono ?_
  rintro e w1 ⟨rfl, hst⟩
  have hbw := Lib.hid hst
  replace hG := Lib.hid (hG.out.below hst)
  clear hst
  by_cases hn : n ≤ 6
  rotate_left
  · have hn' : decide ((6 : Int) < (n : Int)) = true := by simp; omega
    have hend := Lib.hid (hfin.out _ hbw.out)
    clear hfin hn
    go_wp2_with fail
    exact hend.out
  have hn' : decide ((6 : Int) < (n : Int)) = false := by simp; omega
  have n6 : (n : Int) ≤ 6 := by omega
  go_wp2_with fail
  refine (rkey_any number _).mono ?_
  rintro e wx ⟨k, rfl, hk1, hk2, hwx⟩
  rw [hwx]
  clear hwx wx
  have hk : Hid (keyOk k = true) := decide_eq_true ⟨hk1, hk2⟩
  clear hk1 hk2 hn'
  obtain ⟨pq, hpq⟩ : ∃ pq, Hid (pubB 4 k = pq) := ⟨_, rfl⟩
  have hpb : Hid (I64 pq) := by have := pubB_bd 4 k; rw [hpq.out] at this; exact ⟨by omega, by omega⟩
  have hpub : Hid (∀ W, Calls Tryd.prog 15 #[.int .i64 k] W (fun e w' => e = .returned (.tuple #[.int .i64 pq, .int .i64 0]) ∧ Below W.heap.size W w')) := fun W => by
    have h := Public_any k W
    rw [publicK_t hk.out, hpq.out] at h
    exact h
  go_wp2_with fail
  refine (new_at hk.out _).mono ?_
  rintro e w2 ⟨rfl, hst⟩
  replace hG := Lib.hid (hG.out.below hst)
  replace hbw := Lib.hid (hbw.out.trans (hst.mono hbw.out.size))
  clear hst
  have hdw := Lib.hid hbw.out.size
  obtain ⟨v2, hP⟩ : ∃ V, Hid (PutR 45 (w2.alloc (.cells (dirC 0 none 0 0 none 0 0 : List Value).toArray 45)) V w2.heap.size 45 (dirC k none 0 0 none 0 0)) := put_row (Blk.new w2 45 (dirC 0 none 0 0 none 0 0)) rfl (sizeDr) (dr_one _ _ _ _ _ _ _)
  have hst := below_grown ((Below.refl _ w2).alloc (Nat.le_refl _) _) hP.out.grown (by simp) (Nat.le_refl _)
  replace hG := Lib.hid (hG.out.below hst)
  replace hbw := Lib.hid (hbw.out.trans (hst.mono hbw.out.size))
  clear hst
  have hB8 := Lib.hid hP.out.blk
  go_wp2_with (first
    | (refine wpList_store_mid (by rfl) 45 (.tmp 8) (.tmp 29) (by rfl) w2.heap.size 0 (dirC k none 0 0 none 0 0).toArray (by rfl) (by rfl) hP.out.there hP.out.info (by simpa using hP.out.one) ?_
       generalize hWq : World.setCells _ _ _ _ = Wa
       obtain rfl : v2 = Wa := by rw [← hWq]; exact hP.out.eq
       clear hWq))
  clear hP
  refine (hpub.out _).mono ?_
  rintro e w3 ⟨rfl, hst⟩
  replace hG := Lib.hid (hG.out.below hst)
  replace hB8 := Lib.hid (hB8.out.below hst hB8.out.lt)
  replace hbw := Lib.hid (hbw.out.trans (hst.mono hbw.out.size))
  clear hst hpub
  obtain ⟨db, hdb⟩ : ∃ db, Hid (w2.heap.size = db) := ⟨_, rfl⟩
  rw [hdb.out] at hB8 hdw ⊢
  have hdbl := Lib.hid hB8.out.lt
  obtain ⟨tq, htq⟩ : ∃ t : Nat, Hid (Int.tmod (ticks : Int) 3 = (t : Int) ∧ t < 3) := ⟨ticks % 3, by rw [Int.tmod_eq_emod_of_nonneg (by omega)]; omega, by omega⟩
  have hq1 := htq.out.1
  have hq2 : (tq : Int) ≤ 2 := by have := htq.out.2; omega
  have hq0 : (0 : Int) ≤ (tq : Int) := by omega
  have hq3 : IntKind.u8.wrap (tq : Int) = (tq : Int) := by rw [IntKind.wrap_u8]; omega
  go_wp2_with fail
  have hI0 : Hid (HisI k db w w3 0 0 ⟨k, [], []⟩ none 0 0 none 0 0) := ⟨hB8.out, RS.nil0 _ _ _, RS.nil0 _ _ _, hbw.out, Go.Dr.hs_new 4 k, rfl, Nat.le_refl _⟩
  clear hB8 hbw hdbl
  go_loopw [12, 13] (fun mv iv wr => ∃ (i m : Nat) (D : Dir) (la : Option Addr) (ln lc : Nat) (ra : Option Addr) (rn rc : Nat), i ≤ n + tq ∧ mv = .int .i64 m ∧ iv = .int .i64 i ∧ Hid (HisI k db w wr i m D la ln lc ra rn rc)) (fun _ iv _ => n + tq - (intOf iv).toNat)
  case atStart => exact ⟨0, 0, _, _, _, _, _, _, _, Nat.zero_le _, rfl, rfl, hI0⟩
  case round =>
    obtain ⟨i, m, D, la, ln, lc, ra, rn, rc, hi, rfl, rfl, hI⟩ := hrel
    have i0 : (0 : Int) ≤ (i : Int) := by omega
    have i8 : (i : Int) ≤ 8 := by omega
    by_cases hlt : i < n + tq
    · have hlt' : (i : Int) < (n : Int) + (tq : Int) := by omega
      obtain ⟨xb, hxb⟩ : ∃ xb, Hid (wr.heap.size = xb) := ⟨_, rfl⟩
      have hdx : Hid (db < xb) := by rw [← hxb.out]; exact hI.out.blk.lt
      have m8 : m ≤ 8 := by have := hI.out.le; omega
      have hpk : Hid (D.priv = k) := hI.out.hs.priv
      obtain ⟨W4, hW4⟩ : ∃ W, Hid (wr.alloc (.cells (dirC 0 none 0 0 none 0 0).toArray 45) = W) := ⟨_, rfl⟩
      have hal : Below wr.heap.size wr W4 := by rw [← hW4.out]; exact (Below.refl _ wr).alloc (Nat.le_refl _) _
      have hB14 : Hid (Blk W4 xb 45 (dirC 0 none 0 0 none 0 0)) := by rw [← hW4.out, ← hxb.out]; exact Blk.new wr _ _
      have hB8 := Lib.hid (hI.out.blk.below hal hI.out.blk.lt)
      have hbW := Lib.hid (hI.out.bel.trans (hal.mono hI.out.bel.size))
      have hDM : Hid (DM (fun _ => True) W4 D la ln lc ra rn rc) := ⟨by rw [hpk.out]; have := of_decide_eq_true hk.out; exact ⟨by omega, by omega⟩, (hI.out.gs.below hal).imp (fun _ _ _ => trivial), (hI.out.qs.below hal).imp (fun _ _ _ => trivial)⟩
      clear hal
      have hI4 := hI
      have hB8w : Blk wr db 45 (dirC D.priv la ln lc ra rn rc) := hI.out.blk
      have n8 := hB8w.lt
      have hal4 : Below wr.heap.size wr W4 := by rw [← hW4.out]; exact (Below.refl _ wr).alloc (Nat.le_refl _) _
      by_cases hin : i < n
      · have hin' : (i : Int) < (n : Int) := by omega
        have hin2 : decide ((n : Int) ≤ (i : Int)) = false := by simp; omega
        have hin3 : decide (n ≤ i) = false := decide_eq_false (by omega)
        have hin4 : ¬ n ≤ i := by omega
        obtain ⟨x, hx⟩ : ∃ x, l[i]? = some x := ⟨_, List.getElem?_eq_getElem (by omega)⟩
        have hGw := hG0.out.below (w' := wr) (hI.out.bel)
        obtain ⟨b2, off, rfl, hbl, _, hox, hrg0⟩ := GS.cells hGw hx
        have hrg := Lib.hid hrg0
        have hri : Hid ((Tryd.prog.info? 32).map (·.size) = some (gC x).length) := sizeG
        rcases Go.Dr.hs_set base_ok hk.out hI.out.hs (by rw [hI.out.len]; omega) x with hset | ⟨E, hset, hHs0, hEl0⟩
        · have hset' : Hid (∀ W, Below wr.heap.size wr W → Calls Tryd.prog 16 #[.agg (dirC D.priv la ln lc ra rn rc).toArray, .agg (gC x).toArray] W (fun e w' => e = .returned (.tuple #[.agg zdV.toArray, .int .i64 350]) ∧ Below W.heap.size W w')) := fun W hb =>
            set_no hset (by decide) hox (HT'.out.below (hI.out.bel.trans (hb.mono hI.out.bel.size))) ⟨hDM.out.pr, (hI.out.gs.below hb).imp (fun _ _ _ => trivial), (hI.out.qs.below hb).imp (fun _ _ _ => trivial)⟩
          obtain ⟨rx, hrx⟩ : ∃ r, Hid (gC x = r) := ⟨_, rfl⟩
          rw [hrx.out] at hset' hrg hri
          clear hset hx hrg0 hGw
          go_wp2_with fail
          generalize hWa : World.alloc wr _ = Wa
          obtain rfl : W4 = Wa := by rw [← hWa]; exact hW4.out.symm
          clear hWa
          rw [hxb.out]
          clear hW4
          refine wp_region_held_drew (S := fun wz => Below wr.heap.size wr wz) (by kernel_rfl) (hal4.drew) (fun hHeld => ?_)
          have hB14d : Blk W4.drew xb 45 (dirC 0 none 0 0 none 0 0) := hB14.out
          generalize hW0 : W4.drew = W0 at *
          clear hW0
          refine wpAnyH_take (i := 0) (oi := { dst := some 57, op := Op.load 45 (Operand.tmp 8), type := 45, pos := "law.go:172", after := #[], guard := none }) (v := ?_) rfl (by kernel_rfl) (by kernel_rfl) (by kernel_rfl) (fun _ _ _ h => h) (Or.inl ⟨by rfl, ?_⟩) hHeld ?_
          rotate_left
          · intro wz hSw
            have q0 := (hB8w.below hSw n8).at_ (i := 0) (x := .int .i64 D.priv) rfl
            have q1 := (hB8w.below hSw n8).at_ (i := 1) (x := .slice la ln lc) rfl
            have q2 := (hB8w.below hSw n8).at_ (i := 2) (x := .slice ra rn rc) rfl
            go_simp
            all_goals (with_reducible rfl)
          try simp only [Act.put, List.setIfInBounds_toArray, List.set_cons_zero, List.set_cons_succ]
          refine wpAnyH_take (i := 1) (oi := { dst := some 58, op := Op.move (Operand.tmp 1), type := 22, pos := "law.go:172", after := #[], guard := none }) (v := ?_) rfl (by kernel_rfl) (by kernel_rfl) (by kernel_rfl) (fun _ _ _ h => h) (Or.inl ⟨by rfl, ?_⟩) hHeld ?_
          rotate_left
          · intro wz hSw
            go_simp
            all_goals (with_reducible rfl)
          try simp only [Act.put, List.setIfInBounds_toArray, List.set_cons_zero, List.set_cons_succ]
          refine wpAnyH_take (i := 2) (oi := { dst := some 59, op := Op.move (Operand.tmp 13), type := 3, pos := "law.go:172", after := #[], guard := none }) (v := ?_) rfl (by kernel_rfl) (by kernel_rfl) (by kernel_rfl) (fun _ _ _ h => h) (Or.inl ⟨by rfl, ?_⟩) hHeld ?_
          rotate_left
          · intro wz hSw
            go_simp
            all_goals (with_reducible rfl)
          try simp only [Act.put, List.setIfInBounds_toArray, List.set_cons_zero, List.set_cons_succ]
          refine wpAnyH_take (i := 3) (oi := { dst := some 60, op := Op.indexAddr 22 (Operand.tmp 58) (Operand.tmp 59), type := 0, pos := "law.go:172", after := #[{ on := 1, ground := Ground.data }, { on := 2, ground := Ground.data }], guard := none }) (v := ?_) rfl (by kernel_rfl) (by kernel_rfl) (by kernel_rfl) (fun _ _ _ h => h) (Or.inl ⟨by rfl, ?_⟩) hHeld ?_
          rotate_left
          · intro wz hSw
            go_simp
            all_goals (with_reducible rfl)
          try simp only [Act.put, List.setIfInBounds_toArray, List.set_cons_zero, List.set_cons_succ]
          refine wpAnyH_take (i := 4) (oi := { dst := some 61, op := Op.load 32 (Operand.tmp 60), type := 32, pos := "law.go:172", after := #[{ on := 3, ground := Ground.data }], guard := none }) rfl (by kernel_rfl) (by kernel_rfl) (by kernel_rfl) (fun _ _ _ h => h) (yieldsIf_load_mid (by rfl) _ _ rfl b2 (off + i * 5) rfl (rx) _ (fun wz h => fun j u hj => (h.cell (p := ⟨b2, _, none⟩) hbl).trans (hrg.out j u hj)) Tryd.underlying32 rfl (hri.out)) hHeld ?_
          try simp only [Act.put, List.setIfInBounds_toArray, List.set_cons_zero, List.set_cons_succ]
          refine wpAnyH_ready (rs := [5]) (by kernel_rfl) (by simp) ?_
          refine AllReadyH.cons (o := { dst := some 62, op := Op.call { callee := Callee.value (Operand.func 16), args := #[Operand.tmp 57, Operand.tmp 61], argTypes := #[45, 32] }, type := 46, pos := "law.go:172", after := #[{ on := 0, ground := Ground.data }, { on := 4, ground := Ground.data }], guard := none }) rfl (fun K hK => ?_) AllReadyH.nil
          rw [if_pos (by rfl)]
          show Oper.wp _ _ _ _ K _
          go_simp
          go_at_call 16
          refine (hset'.out _ hHeld).mono ?_
          rintro e W1 ⟨rfl, hst⟩
          have hB14c := hB14d.below hst hB14d.lt
          refine hK.out _ _ (hHeld.trans (hst.mono hHeld.size)) (fun hHeld2 => ?_)
          have hHeld := hHeld2
          clear hK K
          try simp only [Act.put, List.setIfInBounds_toArray, List.set_cons_zero, List.set_cons_succ]
          refine wpAnyH_take (i := 6) (oi := { dst := some 56, op := Op.move (Operand.tmp 62), type := 46, pos := "law.go:172", after := #[{ on := 5, ground := Ground.data }], guard := none }) (v := ?_) rfl (by kernel_rfl) (by kernel_rfl) (by kernel_rfl) (fun _ _ _ h => h) (Or.inl ⟨by rfl, ?_⟩) hHeld ?_
          rotate_left
          · intro wz hSw
            go_simp
            all_goals (with_reducible rfl)
          try simp only [Act.put, List.setIfInBounds_toArray, List.set_cons_zero, List.set_cons_succ]
          refine wpAnyH_take (i := 7) (oi := { dst := some 63, op := Op.extract (Operand.tmp 56) 0, type := 45, pos := "law.go:172", after := #[{ on := 6, ground := Ground.data }], guard := none }) (v := ?_) rfl (by kernel_rfl) (by kernel_rfl) (by kernel_rfl) (fun _ _ _ h => h) (Or.inl ⟨by rfl, ?_⟩) hHeld ?_
          rotate_left
          · intro wz hSw
            go_simp
            all_goals (with_reducible rfl)
          try simp only [Act.put, List.setIfInBounds_toArray, List.set_cons_zero, List.set_cons_succ]
          refine wpAnyH_take (i := 8) (oi := { dst := some 64, op := Op.extract (Operand.tmp 56) 1, type := 25, pos := "law.go:172", after := #[{ on := 6, ground := Ground.data }, { on := 9, ground := Ground.gcOnly Departure.lateStores }], guard := none }) (v := ?_) rfl (by kernel_rfl) (by kernel_rfl) (by kernel_rfl) (fun _ _ _ h => h) (Or.inl ⟨by rfl, ?_⟩) hHeld ?_
          rotate_left
          · intro wz hSw
            go_simp
            all_goals (with_reducible rfl)
          try simp only [Act.put, List.setIfInBounds_toArray, List.set_cons_zero, List.set_cons_succ]

          obtain ⟨V9, hQ⟩ := put_row (ty := 45) hB14c (x := zdV) rfl sizeDr (dr_one _ _ _ _ _ _ _)
          have hNew : Below wr.heap.size wr V9 := below_grown hHeld hQ.grown hHeld.size (by rw [hxb.out]; exact Nat.le_refl _)
          refine wpAnyH_ready (rs := [9]) (by kernel_rfl) (by simp) ?_
          refine AllReadyH.cons (o := { dst := none, op := Op.store 45 (Operand.tmp 14) (Operand.tmp 63), type := 0, pos := "law.go:172", after := #[{ on := 7, ground := Ground.data }, { on := 5, ground := Ground.chain }, { on := 0, ground := Ground.phase }, { on := 1, ground := Ground.phase }, { on := 2, ground := Ground.phase }, { on := 3, ground := Ground.phase }, { on := 4, ground := Ground.phase }, { on := 5, ground := Ground.phase }, { on := 6, ground := Ground.phase }, { on := 7, ground := Ground.phase }, { on := 8, ground := Ground.textOnly Departure.lateStores }], guard := none }) rfl (fun K hK => ?_) AllReadyH.nil
          rw [if_pos (by rfl)]
          refine wp_store_mid 45 _ _ rfl xb 0 (zdV).toArray (by rfl) (by rfl) hQ.there hQ.info (by simpa using hQ.one) ?_
          generalize hWq : World.setCells _ _ _ _ = Wa
          obtain rfl : V9 = Wa := by rw [← hWq]; exact hQ.eq
          clear hWq
          refine hK.out _ _ hNew (fun hHeld2 => ?_)
          clear hK K
          try simp only [Act.put]
          have hHeld := hHeld2
          refine wpAnyH_take (i := 10) (oi := { dst := some 15, op := Op.assign (Operand.tmp 64), type := 25, pos := "law.go:172", after := #[{ on := 8, ground := Ground.data }, { on := 9, ground := Ground.chain }, { on := 0, ground := Ground.phase }, { on := 1, ground := Ground.phase }, { on := 2, ground := Ground.phase }, { on := 3, ground := Ground.phase }, { on := 4, ground := Ground.phase }, { on := 5, ground := Ground.phase }, { on := 6, ground := Ground.phase }, { on := 7, ground := Ground.phase }, { on := 8, ground := Ground.phase }, { on := 9, ground := Ground.phase }], guard := none }) (v := ?_) rfl (by kernel_rfl) (by kernel_rfl) (by kernel_rfl) (fun _ _ _ h => h) (Or.inl ⟨by rfl, ?_⟩) hHeld ?_
          rotate_left
          · intro wz hSw
            go_simp
            all_goals (with_reducible rfl)
          try simp only [Act.put, List.setIfInBounds_toArray, List.set_cons_zero, List.set_cons_succ]
          refine wpAnyH_done (by kernel_rfl) ?_ _
          have hI9 : Hid (HisI k db w V9 (i + 1) m D la ln lc ra rn rc) := ⟨hB8w.below hHeld n8, hI.out.gs.below hHeld, hI.out.qs.below hHeld, hI.out.bel.trans (hHeld.mono hI.out.bel.size), hI.out.hs, hI.out.len, by have := hI.out.le; omega⟩
          clear hQ hI
          go_wp2_with fail
          go_roundw
          case rel => exact ⟨i + 1, m, D, la, ln, lc, ra, rn, rc, by omega, rfl, by go_num, hI9⟩
          case measure => simp [intOf]; omega
        · have hHs := Lib.hid hHs0
          have hEl : Hid (E.rs.length = m + 1) := by rw [← hI.out.len]; exact hEl0
          have hset' : Hid (∀ W, Below wr.heap.size wr W → Calls Tryd.prog 16 #[.agg (dirC D.priv la ln lc ra rn rc).toArray, .agg (gC x).toArray] W (fun e w' => ∃ a c b d, e = .returned (.tuple #[.agg (dirC E.priv a E.ls.length c b E.rs.length d).toArray, .int .i64 0]) ∧ DM (fun b => W.heap.size ≤ b) w' E a E.ls.length c b E.rs.length d ∧ Below W.heap.size W w')) := fun W hb =>
            set_at hset hox (HT'.out.below (hI.out.bel.trans (hb.mono hI.out.bel.size))) ⟨hDM.out.pr, (hI.out.gs.below hb).imp (fun _ _ _ => trivial), (hI.out.qs.below hb).imp (fun _ _ _ => trivial)⟩
          obtain ⟨rx, hrx⟩ : ∃ r, Hid (gC x = r) := ⟨_, rfl⟩
          rw [hrx.out] at hset' hrg hri
          clear hset hHs0 hEl0 hx hrg0 hGw
          go_wp2_with fail
          generalize hWa : World.alloc wr _ = Wa
          obtain rfl : W4 = Wa := by rw [← hWa]; exact hW4.out.symm
          clear hWa
          rw [hxb.out]
          clear hW4
          refine wp_region_held_drew (S := fun wz => Below wr.heap.size wr wz) (by kernel_rfl) (hal4.drew) (fun hHeld => ?_)
          have hB14d : Blk W4.drew xb 45 (dirC 0 none 0 0 none 0 0) := hB14.out
          generalize hW0 : W4.drew = W0 at *
          clear hW0
          refine wpAnyH_take (i := 0) (oi := { dst := some 57, op := Op.load 45 (Operand.tmp 8), type := 45, pos := "law.go:172", after := #[], guard := none }) (v := ?_) rfl (by kernel_rfl) (by kernel_rfl) (by kernel_rfl) (fun _ _ _ h => h) (Or.inl ⟨by rfl, ?_⟩) hHeld ?_
          rotate_left
          · intro wz hSw
            have q0 := (hB8w.below hSw n8).at_ (i := 0) (x := .int .i64 D.priv) rfl
            have q1 := (hB8w.below hSw n8).at_ (i := 1) (x := .slice la ln lc) rfl
            have q2 := (hB8w.below hSw n8).at_ (i := 2) (x := .slice ra rn rc) rfl
            go_simp
            all_goals (with_reducible rfl)
          try simp only [Act.put, List.setIfInBounds_toArray, List.set_cons_zero, List.set_cons_succ]
          refine wpAnyH_take (i := 1) (oi := { dst := some 58, op := Op.move (Operand.tmp 1), type := 22, pos := "law.go:172", after := #[], guard := none }) (v := ?_) rfl (by kernel_rfl) (by kernel_rfl) (by kernel_rfl) (fun _ _ _ h => h) (Or.inl ⟨by rfl, ?_⟩) hHeld ?_
          rotate_left
          · intro wz hSw
            go_simp
            all_goals (with_reducible rfl)
          try simp only [Act.put, List.setIfInBounds_toArray, List.set_cons_zero, List.set_cons_succ]
          refine wpAnyH_take (i := 2) (oi := { dst := some 59, op := Op.move (Operand.tmp 13), type := 3, pos := "law.go:172", after := #[], guard := none }) (v := ?_) rfl (by kernel_rfl) (by kernel_rfl) (by kernel_rfl) (fun _ _ _ h => h) (Or.inl ⟨by rfl, ?_⟩) hHeld ?_
          rotate_left
          · intro wz hSw
            go_simp
            all_goals (with_reducible rfl)
          try simp only [Act.put, List.setIfInBounds_toArray, List.set_cons_zero, List.set_cons_succ]
          refine wpAnyH_take (i := 3) (oi := { dst := some 60, op := Op.indexAddr 22 (Operand.tmp 58) (Operand.tmp 59), type := 0, pos := "law.go:172", after := #[{ on := 1, ground := Ground.data }, { on := 2, ground := Ground.data }], guard := none }) (v := ?_) rfl (by kernel_rfl) (by kernel_rfl) (by kernel_rfl) (fun _ _ _ h => h) (Or.inl ⟨by rfl, ?_⟩) hHeld ?_
          rotate_left
          · intro wz hSw
            go_simp
            all_goals (with_reducible rfl)
          try simp only [Act.put, List.setIfInBounds_toArray, List.set_cons_zero, List.set_cons_succ]
          refine wpAnyH_take (i := 4) (oi := { dst := some 61, op := Op.load 32 (Operand.tmp 60), type := 32, pos := "law.go:172", after := #[{ on := 3, ground := Ground.data }], guard := none }) rfl (by kernel_rfl) (by kernel_rfl) (by kernel_rfl) (fun _ _ _ h => h) (yieldsIf_load_mid (by rfl) _ _ rfl b2 (off + i * 5) rfl (rx) _ (fun wz h => fun j u hj => (h.cell (p := ⟨b2, _, none⟩) hbl).trans (hrg.out j u hj)) Tryd.underlying32 rfl (hri.out)) hHeld ?_
          try simp only [Act.put, List.setIfInBounds_toArray, List.set_cons_zero, List.set_cons_succ]
          refine wpAnyH_ready (rs := [5]) (by kernel_rfl) (by simp) ?_
          refine AllReadyH.cons (o := { dst := some 62, op := Op.call { callee := Callee.value (Operand.func 16), args := #[Operand.tmp 57, Operand.tmp 61], argTypes := #[45, 32] }, type := 46, pos := "law.go:172", after := #[{ on := 0, ground := Ground.data }, { on := 4, ground := Ground.data }], guard := none }) rfl (fun K hK => ?_) AllReadyH.nil
          rw [if_pos (by rfl)]
          show Oper.wp _ _ _ _ K _
          go_simp
          go_at_call 16
          refine (hset'.out _ hHeld).mono ?_
          rintro e W1 ⟨ea, ec, eb, ed, rfl, hDE, hst⟩
          have hB14c := hB14d.below hst hB14d.lt
          have hW0s := hst.size
          refine hK.out _ _ (hHeld.trans (hst.mono hHeld.size)) (fun hHeld2 => ?_)
          have hHeld := hHeld2
          clear hK K
          try simp only [Act.put, List.setIfInBounds_toArray, List.set_cons_zero, List.set_cons_succ]
          refine wpAnyH_take (i := 6) (oi := { dst := some 56, op := Op.move (Operand.tmp 62), type := 46, pos := "law.go:172", after := #[{ on := 5, ground := Ground.data }], guard := none }) (v := ?_) rfl (by kernel_rfl) (by kernel_rfl) (by kernel_rfl) (fun _ _ _ h => h) (Or.inl ⟨by rfl, ?_⟩) hHeld ?_
          rotate_left
          · intro wz hSw
            go_simp
            all_goals (with_reducible rfl)
          try simp only [Act.put, List.setIfInBounds_toArray, List.set_cons_zero, List.set_cons_succ]
          refine wpAnyH_take (i := 7) (oi := { dst := some 63, op := Op.extract (Operand.tmp 56) 0, type := 45, pos := "law.go:172", after := #[{ on := 6, ground := Ground.data }], guard := none }) (v := ?_) rfl (by kernel_rfl) (by kernel_rfl) (by kernel_rfl) (fun _ _ _ h => h) (Or.inl ⟨by rfl, ?_⟩) hHeld ?_
          rotate_left
          · intro wz hSw
            go_simp
            all_goals (with_reducible rfl)
          try simp only [Act.put, List.setIfInBounds_toArray, List.set_cons_zero, List.set_cons_succ]
          refine wpAnyH_take (i := 8) (oi := { dst := some 64, op := Op.extract (Operand.tmp 56) 1, type := 25, pos := "law.go:172", after := #[{ on := 6, ground := Ground.data }, { on := 9, ground := Ground.gcOnly Departure.lateStores }], guard := none }) (v := ?_) rfl (by kernel_rfl) (by kernel_rfl) (by kernel_rfl) (fun _ _ _ h => h) (Or.inl ⟨by rfl, ?_⟩) hHeld ?_
          rotate_left
          · intro wz hSw
            go_simp
            all_goals (with_reducible rfl)
          try simp only [Act.put, List.setIfInBounds_toArray, List.set_cons_zero, List.set_cons_succ]

          obtain ⟨V9, hQ⟩ := put_row (ty := 45) hB14c (x := dirC E.priv ea E.ls.length ec eb E.rs.length ed) rfl sizeDr (dr_one _ _ _ _ _ _ _)
          have hNew : Below wr.heap.size wr V9 := below_grown hHeld hQ.grown hHeld.size (by rw [hxb.out]; exact Nat.le_refl _)
          refine wpAnyH_ready (rs := [9]) (by kernel_rfl) (by simp) ?_
          refine AllReadyH.cons (o := { dst := none, op := Op.store 45 (Operand.tmp 14) (Operand.tmp 63), type := 0, pos := "law.go:172", after := #[{ on := 7, ground := Ground.data }, { on := 5, ground := Ground.chain }, { on := 0, ground := Ground.phase }, { on := 1, ground := Ground.phase }, { on := 2, ground := Ground.phase }, { on := 3, ground := Ground.phase }, { on := 4, ground := Ground.phase }, { on := 5, ground := Ground.phase }, { on := 6, ground := Ground.phase }, { on := 7, ground := Ground.phase }, { on := 8, ground := Ground.textOnly Departure.lateStores }], guard := none }) rfl (fun K hK => ?_) AllReadyH.nil
          rw [if_pos (by rfl)]
          refine wp_store_mid 45 _ _ rfl xb 0 (dirC E.priv ea E.ls.length ec eb E.rs.length ed).toArray (by rfl) (by rfl) hQ.there hQ.info (by simpa using hQ.one) ?_
          generalize hWq : World.setCells _ _ _ _ = Wa
          obtain rfl : V9 = Wa := by rw [← hWq]; exact hQ.eq
          clear hWq
          refine hK.out _ _ hNew (fun hHeld2 => ?_)
          clear hK K
          try simp only [Act.put]
          have hHeld := hHeld2
          refine wpAnyH_take (i := 10) (oi := { dst := some 15, op := Op.assign (Operand.tmp 64), type := 25, pos := "law.go:172", after := #[{ on := 8, ground := Ground.data }, { on := 9, ground := Ground.chain }, { on := 0, ground := Ground.phase }, { on := 1, ground := Ground.phase }, { on := 2, ground := Ground.phase }, { on := 3, ground := Ground.phase }, { on := 4, ground := Ground.phase }, { on := 5, ground := Ground.phase }, { on := 6, ground := Ground.phase }, { on := 7, ground := Ground.phase }, { on := 8, ground := Ground.phase }, { on := 9, ground := Ground.phase }], guard := none }) (v := ?_) rfl (by kernel_rfl) (by kernel_rfl) (by kernel_rfl) (fun _ _ _ h => h) (Or.inl ⟨by rfl, ?_⟩) hHeld ?_
          rotate_left
          · intro wz hSw
            go_simp
            all_goals (with_reducible rfl)
          try simp only [Act.put, List.setIfInBounds_toArray, List.set_cons_zero, List.set_cons_succ]
          refine wpAnyH_done (by kernel_rfl) ?_ _
          have hB14s := hQ.blk
          have hB8s := hB8w.below hHeld n8
          have hxw : xb < W0.heap.size := hB14d.lt
          have gsE : GS (fun b => db < b) V9 ea E.ls.length ec E.ls := (hDE.gs.keep (Keeps.grown hQ.grown (fun b hb e => by omega))).imp (fun b _ hb => by have := hdx.out; omega)
          have qsE : QS (fun b => db < b) V9 eb E.rs.length ed E.rs := (hDE.qs.keep (Keeps.grown hQ.grown (fun b hb e => by omega))).imp (fun b _ hb => by have := hdx.out; omega)
          have hbS : Below w.heap.size w V9 := hI.out.bel.trans (hHeld.mono hI.out.bel.size)
          obtain ⟨W9, hP9⟩ := put_row (ty := 45) hB8s (x := dirC E.priv ea E.ls.length ec eb E.rs.length ed) rfl sizeDr (dr_one _ _ _ _ _ _ _)
          have hI9 : Hid (HisI k db w W9 (i + 1) (m + 1) E ea E.ls.length ec eb E.rs.length ed) := ⟨hP9.blk, gsE.keep (Keeps.grown hP9.grown (fun b hb e => by omega)), qsE.keep (Keeps.grown hP9.grown (fun b hb e => by omega)), hbS.grown hP9.grown hbS.size (fun r e => by cases e; exact hdw.out), hHs.out, hEl.out, by have := hI.out.le; omega⟩
          have hP9' := Lib.hid hP9
          have h14r := Lib.hid hB14s.range
          have h14i : Hid ((Tryd.prog.info? 45).map (·.size) = some (dirC E.priv ea E.ls.length ec eb E.rs.length ed).length) := sizeDr
          obtain ⟨r9, hr9⟩ : ∃ r, Hid (dirC E.priv ea E.ls.length ec eb E.rs.length ed = r) := ⟨_, rfl⟩
          rw [hr9.out] at hP9' h14r h14i
          clear hP9 hB8s gsE qsE hB14s hI
          go_wp2_with (first
            | (refine wpList_load_mid (by rfl) 45 (.tmp 14) (by rfl) xb 0 (by rfl) r9 _ h14r.out Tryd.underlying45 (by rfl) h14i.out ?_)
            | (refine wpList_store_mid (by rfl) 45 (.tmp 8) (.tmp 72) (by rfl) db 0 r9.toArray (by rfl) (by rfl) hP9'.out.there hP9'.out.info (by simpa using hP9'.out.one) ?_
               generalize hWq : World.setCells _ _ _ _ = Wa
               obtain rfl : W9 = Wa := by rw [← hWq]; exact hP9'.out.eq
               clear hWq))
          go_roundw
          case rel => exact ⟨i + 1, m + 1, E, ea, E.ls.length, ec, eb, E.rs.length, ed, by omega, by go_num, by go_num, hI9⟩
          case measure => simp [intOf]; omega
      · have hin2 : decide ((n : Int) ≤ (i : Int)) = true := by simp; omega
        have hin' : decide ((i : Int) < (n : Int)) = false := by simp; omega
        have hkD : keyOk D.priv = true := by rw [hpk.out]; exact hk.out
        obtain ⟨_, hHs0⟩ := Go.Dr.hs_tick base_ok hk.out hI.out.hs (by rw [hI.out.len]; omega)
        have htk := Lib.hid (tick_at hkD hI.out.hs.chk (by rw [hI.out.len]; omega) (HT'.out.below hbW.out) hDM.out)
        have hHs := Lib.hid hHs0
        have hEl : Hid ((D.rs ++ [Go.Dr.nextR 4 D]).length = m + 1) := by rw [List.length_append, hI.out.len]; rfl
        have y0 := hB8.out.at_ (i := 0) (x := .int .i64 D.priv) rfl
        have y1 := hB8.out.at_ (i := 1) (x := .slice la ln lc) rfl
        have y2 := hB8.out.at_ (i := 2) (x := .slice ra rn rc) rfl
        obtain ⟨R, hR⟩ : ∃ R, Hid (Go.Dr.nextR 4 D = R) := ⟨_, rfl⟩
        rw [hR.out] at htk hHs hEl
        clear hHs0 hkD hR
        go_upto_region 18 with fail
        generalize hWa : World.alloc wr _ = Wa
        obtain rfl : W4 = Wa := by rw [← hWa]; exact hW4.out.symm
        clear hWa
        rw [hxb.out]
        clear hW4
        go_wp2_with fail
        refine htk.out.mono ?_
        rintro e W1 ⟨eb, ed, rfl, hQE, hst⟩
        clear y0 y1 y2
        have hB14c := hB14.out.below hst hB14.out.lt
        obtain ⟨V9, hQ⟩ := put_row (ty := 45) hB14c (x := dirC D.priv la ln lc eb (rn + 1) ed) rfl sizeDr (dr_one _ _ _ _ _ _ _)
        have hHeld : Below wr.heap.size wr V9 := below_grown (hal4.trans (hst.mono hal4.size)) hQ.grown (Nat.le_trans hal4.size hst.size) (by rw [hxb.out]; exact Nat.le_refl _)
        have hB14s := hQ.blk
        have hB8s := hB8w.below hHeld n8
        have hxw : xb < W4.heap.size := hB14.out.lt
        have gsE : GS (fun b => db < b) V9 la ln lc D.ls := hI.out.gs.below hHeld
        have qsE : QS (fun b => db < b) V9 eb (rn + 1) ed (D.rs ++ [R]) := (hQE.keep (Keeps.grown hQ.grown (fun b hb e => by omega))).imp (fun b _ hb => by have := hdx.out; omega)
        have hbS : Below w.heap.size w V9 := hI.out.bel.trans (hHeld.mono hI.out.bel.size)
        have hQ' := Lib.hid hQ
        obtain ⟨W9, hP9⟩ := put_row (ty := 45) hB8s (x := dirC D.priv la ln lc eb (rn + 1) ed) rfl sizeDr (dr_one _ _ _ _ _ _ _)
        have hI9 : Hid (HisI k db w W9 (i + 1) (m + 1) (⟨D.priv, D.ls, D.rs ++ [R]⟩ : Dir) la ln lc eb (rn + 1) ed) := ⟨hP9.blk, gsE.keep (Keeps.grown hP9.grown (fun b hb e => by omega)), qsE.keep (Keeps.grown hP9.grown (fun b hb e => by omega)), hbS.grown hP9.grown hbS.size (fun r e => by cases e; exact hdw.out), hHs.out, hEl.out, by have := hI.out.le; omega⟩
        have hP9' := Lib.hid hP9
        have h14r := Lib.hid hB14s.range
        have h14i : Hid ((Tryd.prog.info? 45).map (·.size) = some (dirC D.priv la ln lc eb (rn + 1) ed).length) := sizeDr
        obtain ⟨r9, hr9⟩ : ∃ r, Hid (dirC D.priv la ln lc eb (rn + 1) ed = r) := ⟨_, rfl⟩
        rw [hr9.out] at hP9' h14r h14i
        clear hP9 hB8s gsE qsE hB14s hI
        rw [hr9.out] at hQ' ⊢
        clear hQ hHeld hst hB14c hQE
        go_wp2_with (first
          | (refine wpList_store_mid (by rfl) 45 (.tmp 14) (.tmp 68) (by rfl) xb 0 r9.toArray (by rfl) (by rfl) hQ'.out.there hQ'.out.info (by simpa using hQ'.out.one) ?_
             generalize hWq : World.setCells _ _ _ _ = Wa
             obtain rfl : V9 = Wa := by rw [← hWq]; exact hQ'.out.eq
             clear hWq)
          | (refine wpList_load_mid (by rfl) 45 (.tmp 14) (by rfl) xb 0 (by rfl) r9 _ h14r.out Tryd.underlying45 (by rfl) h14i.out ?_)
          | (refine wpList_store_mid (by rfl) 45 (.tmp 8) (.tmp 72) (by rfl) db 0 r9.toArray (by rfl) (by rfl) hP9'.out.there hP9'.out.info (by simpa using hP9'.out.one) ?_
             generalize hWq : World.setCells _ _ _ _ = Wa
             obtain rfl : W9 = Wa := by rw [← hWq]; exact hP9'.out.eq
             clear hWq))
        go_roundw
        case rel => exact ⟨i + 1, m + 1, (⟨D.priv, D.ls, D.rs ++ [R]⟩ : Dir), la, ln, lc, eb, (rn + 1), ed, by omega, by go_num, by go_num, hI9⟩
        case measure => simp [intOf]; omega
    · have hx1 : ¬ (i : Int) < (n : Int) + (tq : Int) := by omega
      obtain ⟨pb, hpbx⟩ : ∃ pb, Hid (wr.heap.size = pb) := ⟨_, rfl⟩
      have hrn : Hid (D.rs.length = rn) := RS.len hI.out.qs
      obtain rfl : rn = m := by have h1 := hI.out.len; have h2 := hrn.out; omega
      have rn8 : (rn : Int) ≤ 8 := by have := hI.out.le; omega
      have rn0 : (0 : Int) ≤ (rn : Int) := by omega
      have hdp : Hid (db < pb) := by rw [← hpbx.out]; exact hI.out.blk.lt
      obtain ⟨V5, hP5⟩ : ∃ V, Hid (PutR 35 (wr.alloc (.cells (bv Go.Dr.zd).toArray 35)) V wr.heap.size 35 (bv Go.Dr.zd)) := put_row (Blk.new wr 35 (bv Go.Dr.zd)) rfl (by rw [bv_length]; exact size35) (bv_one Go.Dr.zd)
      have hBp0 : Hid (Blk V5 pb 35 (bv Go.Dr.zd)) := by rw [← hpbx.out]; exact hP5.out.blk
      have hb50 : Hid (Below pb wr V5) := by rw [← hpbx.out]; exact below_grown ((Below.refl _ wr).alloc (Nat.le_refl _) _) hP5.out.grown (by simp) (Nat.le_refl _)
      go_wp2_with (first
        | (refine wpList_store_mid (by rfl) 35 (.tmp 16) (.tmp 83) (by rfl) wr.heap.size 0 (bv Go.Dr.zd).toArray (by rfl) (by rfl) hP5.out.there hP5.out.info (by simpa using hP5.out.one) ?_
           generalize hWq : World.setCells _ _ _ _ = Wa
           obtain rfl : V5 = Wa := by rw [← hWq]; exact hP5.out.eq
           clear hWq))
      rw [hpbx.out]
      clear hP5 hI0 hlt hx1
      obtain ⟨wO, hwO⟩ : ∃ x, x = wr := ⟨_, rfl⟩
      subst hwO
      go_loopw [17] (fun iv wq => ∃ (j : Nat) (p : List Nat), j ≤ rn ∧ iv = .int .i64 j ∧ Hid (Blk wq pb 35 (bv p)) ∧ Hid (p = Go.Dr.prevOf (D.rs.take j)) ∧ Hid (Below pb wO wq)) (fun iv _ => rn - (intOf iv).toNat)
      case atStart => exact ⟨0, Go.Dr.zd, Nat.zero_le _, rfl, hBp0, rfl, hb50⟩
      case round =>
        obtain ⟨wq, hwq⟩ : ∃ x, x = wr := ⟨_, rfl⟩
        subst hwq
        obtain ⟨j, p, hj, rfl, hBp, hpe, hbr⟩ := hrel
        have hbw5 : Below wO.heap.size wO wq := by rw [hpbx.out]; exact hbr.out
        have hBd : Blk wq db 45 (dirC D.priv la ln lc ra rn rc) := hI.out.blk.below hbw5 hI.out.blk.lt
        have nd := hBd.lt
        have hbq : Hid (Below w.heap.size w wq) := hI.out.bel.trans (hbw5.mono hI.out.bel.size)
        have hqq := Lib.hid (hI.out.qs.below hbw5)
        have hgq := Lib.hid (hI.out.gs.below hbw5)
        have hle := hI.out.le
        by_cases hjr : j < rn
        · have hjl : j < D.rs.length := by have := hrn.out; omega
          obtain ⟨r, hr⟩ : ∃ r, D.rs[j]? = some r := ⟨_, List.getElem?_eq_getElem hjl⟩
          obtain ⟨h1, h2, h3⟩ := hI.out.hs.hist j r hr
          rw [hpq.out] at h3
          obtain ⟨rb, ro, era, hbl, _, hok, hrg0⟩ := hqq.out.cells hr
          have y2 := hBd.at_ (i := 2) (x := .slice ra rn rc) rfl
          rw [era] at y2
          clear era
          have hnx : Hid (Go.Dr.idR r = Go.Dr.prevOf (D.rs.take (j + 1))) := (Go.Dr.prevOf_take hr).symm
          have hpr : p = r.prev := by rw [hpe.out, h2]
          subst hpr
          have hno : r.no = (j : Int) + 1 := h1
          have hsr := Lib.hid (fun W hT => signed_any pq hpb.out r hok W hT)
          rw [h3] at hsr
          have hid := Lib.hid (fun W hT => id_any r hok W hT)
          have heq : ∀ W, (Op.equalIn 10000 35 (.agg (bv r.prev).toArray) (.agg (bv r.prev).toArray)).run Tryd.prog W = .ok true W := fun W => by
            have h := eq_dig ⟨hok.prev, hok.prevl⟩ ⟨hok.prev, hok.prevl⟩ W
            rw [decide_eq_true rfl] at h
            exact h
          have hri : Hid ((Tryd.prog.info? 55).map (·.size) = some (rC r).length) := by show _ = _; rw [rC_length hok]; exact sizeR
          have hpi : Hid ((Tryd.prog.info? 35).map (·.size) = some (bv r.prev).length) := by show _ = _; rw [bv_length, hok.prev]; exact size35
          obtain ⟨V6, hP6⟩ : ∃ V, Hid (PutR 55 (wq.alloc (.cells (rC Go.Dr.zeroR).toArray 55)) V wq.heap.size 55 (rC r)) := put_row (Blk.new wq 55 (rC Go.Dr.zeroR)) (by rw [rC_length hok, rC_length okZ]) (hri.out) (rC_one r)
          have hst6 := below_grown ((Below.refl _ wq).alloc (Nat.le_refl _) _) hP6.out.grown (by simp) (Nat.le_refl _)
          have hB6 := Lib.hid hP6.out.blk
          have hp6 := Lib.hid (hBp.out.below hst6 hBp.out.lt)
          have hb6 := Lib.hid (hbr.out.trans (hst6.mono (by have := hbr.out.size; rw [← hpbx.out]; exact this)))
          have hbw6 := Lib.hid (hbq.out.trans (hst6.mono hbq.out.size))
          have hrgp : Hid (V6.rangeAt wq.heap.size 33 (bv r.prev)) := fun jj u hj => hB6.out.at_ (rC_prev hok.dig hj)
          have hrgq := Lib.hid hp6.out.range
          have n0 := hB6.out.at_ (i := 0) (x := .int .i64 r.no) rfl
          have hrg := Lib.hid hrg0
          have hr6 := Lib.hid hB6.out.range
          obtain ⟨rr, hre⟩ : ∃ rr, Hid (rC r = rr) := ⟨_, rfl⟩
          obtain ⟨D1, hD1⟩ : ∃ D, Hid (Go.Dr.idR r = D) := ⟨_, rfl⟩
          have hDl : Hid (D1.length = 32) := by rw [← hD1.out]; exact Sha.tagged_length _ _
          have hpl : Hid ((bv r.prev).length = 32) := by show _ = _; rw [bv_length, hok.prev]
          rw [hre.out] at hP6 hri hsr hid hrg hr6 hB6
          rw [hD1.out] at hid hnx
          obtain ⟨Q, hQ⟩ : ∃ Q, Hid (bv r.prev = Q) := ⟨_, rfl⟩
          rw [hQ.out] at heq hpi hrgp hrgq hp6 hpl
          have j0 : (0 : Int) ≤ (j : Int) := by omega
          have j1 : (j : Int) < (rn : Int) := by omega
          clear hrg0 hr h1 h2 h3 hjl hBp hok hBd hpe hst6 hfin
          go_wp2_with (first
            | (refine wpList_load_mid (by rfl) 55 (.tmp 94) (by rfl) rb (ro + j * 67) (by rfl) rr _ hrg.out Tryd.underlying55 (by rfl) hri.out ?_)
            | (refine wpList_store_mid (by rfl) 55 (.tmp 18) (.tmp 95) (by rfl) wq.heap.size 0 rr.toArray (by rfl) (by rfl) hP6.out.there hP6.out.info (by simpa using hP6.out.one) ?_
               generalize hWq : World.setCells _ _ _ _ = Wa
               obtain rfl : V6 = Wa := by rw [← hWq]; exact hP6.out.eq
               clear hWq)
            | (refine wpList_load_gd (by rfl) 35 (.tmp 102) (by rfl) wq.heap.size 33 (by rfl) Q _ hrgp.out Tryd.underlying35 (by rfl) hpi.out ?_)
            | (refine wpList_load_gd (by rfl) 35 (.tmp 16) (by rfl) pb 0 (by rfl) Q _ hrgq.out Tryd.underlying35 (by rfl) hpi.out ?_)
            | (refine wpList_load_gd (by rfl) 55 (.tmp 18) (by rfl) wq.heap.size 0 (by rfl) rr _ hr6.out Tryd.underlying55 (by rfl) hri.out ?_))
          refine (hsr.out _ (HT'.out.below hbw6.out)).mono ?_
          rintro e W7 ⟨rfl, hst7⟩
          have hp7 := Lib.hid (hp6.out.below hst7 hp6.out.lt)
          have hB7 := Lib.hid (hB6.out.below hst7 hB6.out.lt)
          have hb7 := Lib.hid (hb6.out.trans (hst7.mono (by have := hb6.out.size; rw [← hpbx.out]; exact this)))
          have hbw7 := Lib.hid (hbw6.out.trans (hst7.mono hbw6.out.size))
          have hr7 := Lib.hid hB7.out.range
          clear hst7 hp6 hB6 hb6 hbw6 hr6 n0 y2 hrgp hrgq heq hno hP6 hsr
          go_wp2_with (first
            | (refine wpList_load_mid (by rfl) 55 (.tmp 18) (by rfl) wq.heap.size 0 (by rfl) rr _ hr7.out Tryd.underlying55 (by rfl) hri.out ?_))
          refine (hid.out _ (HT'.out.below hbw7.out)).mono ?_
          rintro e W8 ⟨rfl, hst8⟩
          obtain ⟨W9, hP9⟩ := put_row (ty := 35) (hp7.out.below hst8 hp7.out.lt) (x := bv D1) (by rw [bv_length, hDl.out, hpl.out]) (by rw [bv_length, hDl.out]; exact size35) (bv_one D1)
          have hp9 := Lib.hid hP9.blk
          have hb9 : Hid (Below pb wO W9) := (hb7.out.trans (hst8.mono (by have := hb7.out.size; rw [← hpbx.out]; exact this))).grown hP9.grown (by have h1 := hb7.out.size; have h2 := hst8.size; have h3 := hpbx.out; omega) (fun r e => by cases e; exact Nat.le_refl _)
          have hP9' := Lib.hid hP9
          clear hst8 hP9 hp7 hB7 hb7 hbw7 hr7 hid
          go_wp2_with (first
            | (refine wpList_store_mid (by rfl) 35 (.tmp 16) (.tmp 114) (by rfl) pb 0 (bv D1).toArray (by rfl) (by rfl) hP9'.out.there hP9'.out.info (by simpa using hP9'.out.one) ?_
               generalize hWq : World.setCells _ _ _ _ = Wa
               obtain rfl : W9 = Wa := by rw [← hWq]; exact hP9'.out.eq
               clear hWq))
          go_roundw
          case rel => exact ⟨j + 1, D1, by omega, by go_num, hp9, hnx, hb9⟩
          case measure => simp [intOf]; omega
        · obtain rfl : j = rn := by omega
          have y2 := hBd.at_ (i := 2) (x := .slice ra j rc) rfl
          have hck := Lib.hid (fun W hGG => dcheck_any (fun b => db < b) la ln lc D.ls W hGG)
          rw [if_pos hI.out.hs.chk] at hck
          have hrr2 : ((j : Int) == (j : Int)) = true := by simp
          go_wp2_with fail
          clear y2
          by_cases hz : j = 0
          · have hz' : ((j : Int) == 0) = true := by rw [hz]; rfl
            clear hz
            refine wp_region_held_drew (S := fun wz => Below wq.heap.size wq wz) (by kernel_rfl) ((Below.refl _ wq).drew) (fun hHeld => ?_)
            generalize hW0 : wq.drew = W0 at *
            clear hW0
            refine wpAnyH_take (i := 0) (oi := { dst := some 115, op := Op.fieldAddr 45 (Operand.tmp 8) 2, type := 0, pos := "law.go:191", after := #[], guard := none }) (v := ?_) rfl (by kernel_rfl) (by kernel_rfl) (by kernel_rfl) (fun _ _ _ h => h) (Or.inl ⟨by rfl, ?_⟩) hHeld ?_
            rotate_left
            · intro wz hSw
              go_simp
              all_goals (with_reducible rfl)
            try simp only [Act.put, List.setIfInBounds_toArray, List.set_cons_zero, List.set_cons_succ]
            refine wpAnyH_take (i := 1) (oi := { dst := some 116, op := Op.load 43 (Operand.tmp 115), type := 43, pos := "law.go:191", after := #[{ on := 0, ground := Ground.data }], guard := none }) (v := ?_) rfl (by kernel_rfl) (by kernel_rfl) (by kernel_rfl) (fun _ _ _ h => h) (Or.inl ⟨by rfl, ?_⟩) hHeld ?_
            rotate_left
            · intro wz hSw
              have q2 := (hBd.below hSw nd).at_ (i := 2) (x := .slice ra j rc) rfl
              go_simp
              all_goals (with_reducible rfl)
            try simp only [Act.put, List.setIfInBounds_toArray, List.set_cons_zero, List.set_cons_succ]
            refine wpAnyH_take (i := 2) (oi := { dst := some 117, op := Op.call { callee := Callee.builtin Builtin.len, args := #[Operand.tmp 116], argTypes := #[43] }, type := 3, pos := "law.go:191", after := #[{ on := 1, ground := Ground.data }], guard := none }) (v := ?_) rfl (by kernel_rfl) (by kernel_rfl) (by kernel_rfl) (fun _ _ _ h => h) (Or.inl ⟨by rfl, ?_⟩) hHeld ?_
            rotate_left
            · intro wz hSw
              go_simp
              all_goals (with_reducible rfl)
            try simp only [Act.put, List.setIfInBounds_toArray, List.set_cons_zero, List.set_cons_succ]
            refine wpAnyH_take (i := 3) (oi := { dst := some 118, op := Op.move (Operand.tmp 12), type := 3, pos := "law.go:191", after := #[], guard := none }) (v := ?_) rfl (by kernel_rfl) (by kernel_rfl) (by kernel_rfl) (fun _ _ _ h => h) (Or.inl ⟨by rfl, ?_⟩) hHeld ?_
            rotate_left
            · intro wz hSw
              go_simp
              all_goals (with_reducible rfl)
            try simp only [Act.put, List.setIfInBounds_toArray, List.set_cons_zero, List.set_cons_succ]
            refine wpAnyH_take (i := 4) (oi := { dst := some 119, op := Op.binOp BinOp.eql 3 (Operand.tmp 117) (Operand.tmp 118) 3, type := 4, pos := "law.go:191", after := #[{ on := 2, ground := Ground.data }, { on := 3, ground := Ground.data }], guard := none }) (v := ?_) rfl (by kernel_rfl) (by kernel_rfl) (by kernel_rfl) (fun _ _ _ h => h) (Or.inl ⟨by rfl, ?_⟩) hHeld ?_
            rotate_left
            · intro wz hSw
              go_simp
              all_goals (with_reducible rfl)
            try simp only [Act.put, List.setIfInBounds_toArray, List.set_cons_zero, List.set_cons_succ]
            refine wpAnyH_take (i := 5) (oi := { dst := some 120, op := Op.move (Operand.tmp 119), type := 4, pos := "law.go:191", after := #[{ on := 4, ground := Ground.data }], guard := none }) (v := ?_) rfl (by kernel_rfl) (by kernel_rfl) (by kernel_rfl) (fun _ _ _ h => h) (Or.inl ⟨by rfl, ?_⟩) hHeld ?_
            rotate_left
            · intro wz hSw
              go_simp
              all_goals (with_reducible rfl)
            try simp only [Act.put, List.setIfInBounds_toArray, List.set_cons_zero, List.set_cons_succ]
            refine wpAnyH_take (i := 6) (oi := { dst := some 121, op := Op.fieldAddr 45 (Operand.tmp 8) 1, type := 0, pos := "law.go:191", after := #[{ on := 5, ground := Ground.guard }], guard := some (5, true) }) (v := ?_) rfl (by kernel_rfl) (by kernel_rfl) (by kernel_rfl) (fun _ _ _ h => h) (Or.inl ⟨by rfl, ?_⟩) hHeld ?_
            rotate_left
            · intro wz hSw
              go_simp
              all_goals (with_reducible rfl)
            try simp only [Act.put, List.setIfInBounds_toArray, List.set_cons_zero, List.set_cons_succ]
            refine wpAnyH_take (i := 7) (oi := { dst := some 122, op := Op.load 22 (Operand.tmp 121), type := 22, pos := "law.go:191", after := #[{ on := 6, ground := Ground.data }, { on := 5, ground := Ground.guard }], guard := some (5, true) }) (v := ?_) rfl (by kernel_rfl) (by kernel_rfl) (by kernel_rfl) (fun _ _ _ h => h) (Or.inl ⟨by rfl, ?_⟩) hHeld ?_
            rotate_left
            · intro wz hSw
              have q1 := (hBd.below hSw nd).at_ (i := 1) (x := .slice la ln lc) rfl
              go_simp
              all_goals (with_reducible rfl)
            try simp only [Act.put, List.setIfInBounds_toArray, List.set_cons_zero, List.set_cons_succ]
            refine wpAnyH_ready (rs := [8]) (by kernel_rfl) (by simp) ?_
            refine AllReadyH.cons (o := { dst := some 123, op := Op.call { callee := Callee.value (Operand.func 20), args := #[Operand.tmp 122], argTypes := #[22] }, type := 25, pos := "law.go:191", after := #[{ on := 7, ground := Ground.data }, { on := 5, ground := Ground.chain }, { on := 5, ground := Ground.guard }], guard := some (5, true) }) rfl (fun K hK => ?_) AllReadyH.nil
            rw [if_pos (by rfl)]
            show Oper.wp _ _ _ _ K _
            go_simp
            go_at_call 20
            refine (hck.out _ (hgq.out.below hHeld)).mono ?_
            rintro e W1 ⟨rfl, hst⟩
            refine hK.out _ _ (hHeld.trans (hst.mono hHeld.size)) (fun hHeld2 => ?_)
            have hHeld := hHeld2
            clear hK K
            try simp only [Act.put, List.setIfInBounds_toArray, List.set_cons_zero, List.set_cons_succ]
            refine wpAnyH_take (i := 9) (oi := { dst := some 124, op := Op.binOp BinOp.eql 25 (Operand.tmp 123) (Operand.const (Value.int IntKind.i64 0)) 25, type := 4, pos := "law.go:191", after := #[{ on := 8, ground := Ground.data }, { on := 5, ground := Ground.guard }], guard := some (5, true) }) (v := ?_) rfl (by kernel_rfl) (by kernel_rfl) (by kernel_rfl) (fun _ _ _ h => h) (Or.inl ⟨by rfl, ?_⟩) hHeld ?_
            rotate_left
            · intro wz hSw
              go_simp
              all_goals (with_reducible rfl)
            try simp only [Act.put, List.setIfInBounds_toArray, List.set_cons_zero, List.set_cons_succ]
            refine wpAnyH_take (i := 10) (oi := { dst := some 125, op := Op.pick (Operand.tmp 120) (Operand.tmp 124) (Operand.const (Value.bool false)), type := 4, pos := "law.go:191", after := #[{ on := 5, ground := Ground.data }, { on := 9, ground := Ground.data }], guard := none }) (v := ?_) rfl (by kernel_rfl) (by kernel_rfl) (by kernel_rfl) (fun _ _ _ h => h) (Or.inl ⟨by rfl, ?_⟩) hHeld ?_
            rotate_left
            · intro wz hSw
              go_simp
              all_goals (with_reducible rfl)
            try simp only [Act.put, List.setIfInBounds_toArray, List.set_cons_zero, List.set_cons_succ]
            refine wpAnyH_take (i := 11) (oi := { dst := some 126, op := Op.move (Operand.tmp 125), type := 4, pos := "law.go:191", after := #[{ on := 10, ground := Ground.data }, { on := 8, ground := Ground.chain }], guard := none }) (v := ?_) rfl (by kernel_rfl) (by kernel_rfl) (by kernel_rfl) (fun _ _ _ h => h) (Or.inl ⟨by rfl, ?_⟩) hHeld ?_
            rotate_left
            · intro wz hSw
              go_simp
              all_goals (with_reducible rfl)
            try simp only [Act.put, List.setIfInBounds_toArray, List.set_cons_zero, List.set_cons_succ]
            refine wpAnyH_take (i := 12) (oi := { dst := some 127, op := Op.move (Operand.tmp 12), type := 3, pos := "law.go:191", after := #[{ on := 11, ground := Ground.guard }], guard := some (11, true) }) (v := ?_) rfl (by kernel_rfl) (by kernel_rfl) (by kernel_rfl) (fun _ _ _ h => h) (Or.inl ⟨by rfl, ?_⟩) hHeld ?_
            rotate_left
            · intro wz hSw
              go_simp
              all_goals (with_reducible rfl)
            try simp only [Act.put, List.setIfInBounds_toArray, List.set_cons_zero, List.set_cons_succ]
            refine wpAnyH_take (i := 13) (oi := { dst := some 128, op := Op.binOp BinOp.eql 3 (Operand.tmp 127) (Operand.const (Value.int IntKind.i64 0)) 3, type := 4, pos := "law.go:191", after := #[{ on := 12, ground := Ground.data }, { on := 11, ground := Ground.guard }], guard := some (11, true) }) (v := ?_) rfl (by kernel_rfl) (by kernel_rfl) (by kernel_rfl) (fun _ _ _ h => h) (Or.inl ⟨by rfl, ?_⟩) hHeld ?_
            rotate_left
            · intro wz hSw
              go_simp
              all_goals (with_reducible rfl)
            try simp only [Act.put, List.setIfInBounds_toArray, List.set_cons_zero, List.set_cons_succ]
            refine wpAnyH_take (i := 14) (oi := { dst := some 129, op := Op.move (Operand.tmp 128), type := 4, pos := "law.go:191", after := #[{ on := 13, ground := Ground.data }, { on := 11, ground := Ground.chain }, { on := 11, ground := Ground.guard }], guard := some (11, true) }) (v := ?_) rfl (by kernel_rfl) (by kernel_rfl) (by kernel_rfl) (fun _ _ _ h => h) (Or.inl ⟨by rfl, ?_⟩) hHeld ?_
            rotate_left
            · intro wz hSw
              go_simp
              all_goals (with_reducible rfl)
            try simp only [Act.put, List.setIfInBounds_toArray, List.set_cons_zero, List.set_cons_succ]
            refine wpAnyH_take (i := 15) (oi := { dst := some 130, op := Op.fieldAddr 45 (Operand.tmp 8) 2, type := 0, pos := "law.go:191", after := #[{ on := 14, ground := Ground.guard }], guard := some (14, false) }) (v := undef) rfl (by kernel_rfl) (by kernel_rfl) (by kernel_rfl) (fun _ _ _ h => h) (Or.inr ⟨by rfl, rfl⟩) hHeld ?_
            try simp only [Act.put, List.setIfInBounds_toArray, List.set_cons_zero, List.set_cons_succ]
            refine wpAnyH_take (i := 16) (oi := { dst := some 131, op := Op.load 43 (Operand.tmp 130), type := 43, pos := "law.go:191", after := #[{ on := 15, ground := Ground.data }, { on := 14, ground := Ground.guard }], guard := some (14, false) }) (v := undef) rfl (by kernel_rfl) (by kernel_rfl) (by kernel_rfl) (fun _ _ _ h => h) (Or.inr ⟨by rfl, rfl⟩) hHeld ?_
            try simp only [Act.put, List.setIfInBounds_toArray, List.set_cons_zero, List.set_cons_succ]
            refine wpAnyH_take (i := 17) (oi := { dst := some 132, op := Op.move (Operand.tmp 12), type := 3, pos := "law.go:191", after := #[{ on := 14, ground := Ground.guard }], guard := some (14, false) }) (v := undef) rfl (by kernel_rfl) (by kernel_rfl) (by kernel_rfl) (fun _ _ _ h => h) (Or.inr ⟨by rfl, rfl⟩) hHeld ?_
            try simp only [Act.put, List.setIfInBounds_toArray, List.set_cons_zero, List.set_cons_succ]
            refine wpAnyH_take (i := 18) (oi := { dst := some 133, op := Op.binOp BinOp.sub 3 (Operand.tmp 132) (Operand.const (Value.int IntKind.i64 1)) 3, type := 3, pos := "law.go:191", after := #[{ on := 17, ground := Ground.data }, { on := 14, ground := Ground.guard }], guard := some (14, false) }) (v := undef) rfl (by kernel_rfl) (by kernel_rfl) (by kernel_rfl) (fun _ _ _ h => h) (Or.inr ⟨by rfl, rfl⟩) hHeld ?_
            try simp only [Act.put, List.setIfInBounds_toArray, List.set_cons_zero, List.set_cons_succ]
            refine wpAnyH_take (i := 19) (oi := { dst := some 134, op := Op.indexAddr 43 (Operand.tmp 131) (Operand.tmp 133), type := 0, pos := "law.go:191", after := #[{ on := 16, ground := Ground.data }, { on := 18, ground := Ground.data }, { on := 14, ground := Ground.guard }], guard := some (14, false) }) (v := undef) rfl (by kernel_rfl) (by kernel_rfl) (by kernel_rfl) (fun _ _ _ h => h) (Or.inr ⟨by rfl, rfl⟩) hHeld ?_
            try simp only [Act.put, List.setIfInBounds_toArray, List.set_cons_zero, List.set_cons_succ]
            refine wpAnyH_take (i := 20) (oi := { dst := some 135, op := Op.fieldAddr 55 (Operand.tmp 134) 1, type := 0, pos := "law.go:191", after := #[{ on := 19, ground := Ground.data }, { on := 14, ground := Ground.guard }], guard := some (14, false) }) (v := undef) rfl (by kernel_rfl) (by kernel_rfl) (by kernel_rfl) (fun _ _ _ h => h) (Or.inr ⟨by rfl, rfl⟩) hHeld ?_
            try simp only [Act.put, List.setIfInBounds_toArray, List.set_cons_zero, List.set_cons_succ]
            refine wpAnyH_take (i := 21) (oi := { dst := some 136, op := Op.load 35 (Operand.tmp 135), type := 35, pos := "law.go:191", after := #[{ on := 20, ground := Ground.data }, { on := 14, ground := Ground.guard }], guard := some (14, false) }) (v := undef) rfl (by kernel_rfl) (by kernel_rfl) (by kernel_rfl) (fun _ _ _ h => h) (Or.inr ⟨by rfl, rfl⟩) hHeld ?_
            try simp only [Act.put, List.setIfInBounds_toArray, List.set_cons_zero, List.set_cons_succ]
            refine wpAnyH_take (i := 22) (oi := { dst := some 137, op := Op.fieldAddr 45 (Operand.tmp 8) 1, type := 0, pos := "law.go:191", after := #[{ on := 14, ground := Ground.guard }], guard := some (14, false) }) (v := undef) rfl (by kernel_rfl) (by kernel_rfl) (by kernel_rfl) (fun _ _ _ h => h) (Or.inr ⟨by rfl, rfl⟩) hHeld ?_
            try simp only [Act.put, List.setIfInBounds_toArray, List.set_cons_zero, List.set_cons_succ]
            refine wpAnyH_take (i := 23) (oi := { dst := some 138, op := Op.load 22 (Operand.tmp 137), type := 22, pos := "law.go:191", after := #[{ on := 22, ground := Ground.data }, { on := 14, ground := Ground.guard }], guard := some (14, false) }) (v := undef) rfl (by kernel_rfl) (by kernel_rfl) (by kernel_rfl) (fun _ _ _ h => h) (Or.inr ⟨by rfl, rfl⟩) hHeld ?_
            try simp only [Act.put, List.setIfInBounds_toArray, List.set_cons_zero, List.set_cons_succ]
            refine wpAnyH_ready (rs := [24]) (by kernel_rfl) (by simp) ?_
            refine AllReadyH.cons (o := { dst := some 139, op := Op.call { callee := Callee.value (Operand.func 11), args := #[Operand.tmp 138], argTypes := #[22] }, type := 35, pos := "law.go:191", after := #[{ on := 23, ground := Ground.data }, { on := 14, ground := Ground.chain }, { on := 14, ground := Ground.guard }], guard := some (14, false) }) rfl (fun K hK => ?_) AllReadyH.nil
            rw [if_neg (Bool.eq_false_iff.1 (by rfl))]
            refine hK.out _ _ hHeld (fun hHeld => ?_)
            clear hK K
            try simp only [Act.put, List.setIfInBounds_toArray, List.set_cons_zero, List.set_cons_succ]
            refine wpAnyH_take (i := 25) (oi := { dst := some 140, op := Op.binOp BinOp.eql 35 (Operand.tmp 136) (Operand.tmp 139) 35, type := 4, pos := "law.go:191", after := #[{ on := 21, ground := Ground.data }, { on := 24, ground := Ground.data }, { on := 14, ground := Ground.guard }], guard := some (14, false) }) (v := undef) rfl (by kernel_rfl) (by kernel_rfl) (by kernel_rfl) (fun _ _ _ h => h) (Or.inr ⟨by rfl, rfl⟩) hHeld ?_
            try simp only [Act.put, List.setIfInBounds_toArray, List.set_cons_zero, List.set_cons_succ]
            refine wpAnyH_take (i := 26) (oi := { dst := some 141, op := Op.pick (Operand.tmp 129) (Operand.const (Value.bool true)) (Operand.tmp 140), type := 4, pos := "law.go:191", after := #[{ on := 14, ground := Ground.data }, { on := 25, ground := Ground.data }, { on := 11, ground := Ground.guard }], guard := some (11, true) }) (v := ?_) rfl (by kernel_rfl) (by kernel_rfl) (by kernel_rfl) (fun _ _ _ h => h) (Or.inl ⟨by rfl, ?_⟩) hHeld ?_
            rotate_left
            · intro wz hSw
              go_simp
              all_goals (with_reducible rfl)
            try simp only [Act.put, List.setIfInBounds_toArray, List.set_cons_zero, List.set_cons_succ]
            refine wpAnyH_take (i := 27) (oi := { dst := some 142, op := Op.pick (Operand.tmp 126) (Operand.tmp 141) (Operand.const (Value.bool false)), type := 4, pos := "law.go:191", after := #[{ on := 11, ground := Ground.data }, { on := 26, ground := Ground.data }], guard := none }) (v := ?_) rfl (by kernel_rfl) (by kernel_rfl) (by kernel_rfl) (fun _ _ _ h => h) (Or.inl ⟨by rfl, ?_⟩) hHeld ?_
            rotate_left
            · intro wz hSw
              go_simp
              all_goals (with_reducible rfl)
            try simp only [Act.put, List.setIfInBounds_toArray, List.set_cons_zero, List.set_cons_succ]
            refine wpAnyH_take (i := 28) (oi := { dst := some 6, op := Op.assign (Operand.tmp 142), type := 4, pos := "law.go:191", after := #[{ on := 27, ground := Ground.data }, { on := 24, ground := Ground.chain }, { on := 0, ground := Ground.phase }, { on := 1, ground := Ground.phase }, { on := 2, ground := Ground.phase }, { on := 3, ground := Ground.phase }, { on := 4, ground := Ground.phase }, { on := 5, ground := Ground.phase }, { on := 6, ground := Ground.phase }, { on := 7, ground := Ground.phase }, { on := 8, ground := Ground.phase }, { on := 9, ground := Ground.phase }, { on := 10, ground := Ground.phase }, { on := 11, ground := Ground.phase }, { on := 12, ground := Ground.phase }, { on := 13, ground := Ground.phase }, { on := 14, ground := Ground.phase }, { on := 15, ground := Ground.phase }, { on := 16, ground := Ground.phase }, { on := 17, ground := Ground.phase }, { on := 18, ground := Ground.phase }, { on := 19, ground := Ground.phase }, { on := 20, ground := Ground.phase }, { on := 21, ground := Ground.phase }, { on := 22, ground := Ground.phase }, { on := 23, ground := Ground.phase }, { on := 24, ground := Ground.phase }, { on := 25, ground := Ground.phase }, { on := 26, ground := Ground.phase }, { on := 27, ground := Ground.phase }], guard := none }) (v := ?_) rfl (by kernel_rfl) (by kernel_rfl) (by kernel_rfl) (fun _ _ _ h => h) (Or.inl ⟨by rfl, ?_⟩) hHeld ?_
            rotate_left
            · intro wz hSw
              go_simp
              all_goals (with_reducible rfl)
            try simp only [Act.put, List.setIfInBounds_toArray, List.set_cons_zero, List.set_cons_succ]
            refine wpAnyH_done (by kernel_rfl) ?_ _
            have hend := hfin.out _ (hbq.out.trans (hHeld.mono hbq.out.size))
            go_wp2_with fail
            exact hend
          · have hz' : ((j : Int) == 0) = false := by simp; omega
            obtain ⟨kk, hkk⟩ : ∃ kk, Hid (j = kk + 1) := ⟨j - 1, by show _ = _; omega⟩
            have hkl : kk < D.rs.length := by have := hrn.out; have := hkk.out; omega
            obtain ⟨r, hr⟩ : ∃ r, D.rs[kk]? = some r := ⟨_, List.getElem?_eq_getElem hkl⟩
            have hlast := hI.out.hs.last (by intro e; rw [e] at hkl; exact absurd hkl (by simp)) r (by rw [List.getLast?_eq_getElem?, show D.rs.length - 1 = kk by have := hrn.out; have := hkk.out; omega]; exact hr)
            obtain ⟨rb, ro, era, hbl, _, hok, hrg0⟩ := hqq.out.cells hr
            have hrr : Hid (wq.rangeAt rb (ro + kk * 67 + 1) (bv r.dig)) := fun jj u hj => by
              have := hrg0 (1 + jj) u (rC_dig hj)
              rwa [← Nat.add_assoc] at this
            obtain ⟨D0, hD0⟩ : ∃ d, Hid (Go.Dr.rootD D.ls = d) := ⟨_, rfl⟩
            have hDd : Hid (Dig D0) := by rw [← hD0.out]; exact ⟨Go.Dr.nodeD_length D.ls 9 1, Go.Dr.nodeD_lt D.ls 9 1⟩
            rw [hlast, hD0.out] at hrr
            have hdg := Lib.hid (fun W hT hGG => digestL_any (fun b => db < b) la ln lc D.ls W hT hGG)
            rw [hD0.out] at hdg
            have zi1 : Hid ((Tryd.prog.info? 35).map (·.size) = some (bv D0).length) := by show _ = _; rw [bv_length, hDd.out.1]; exact size35
            have heq : ∀ W, (Op.equalIn 10000 35 (.agg (bv D0).toArray) (.agg (bv D0).toArray)).run Tryd.prog W = .ok true W := fun W => by rw [eq_dig hDd.out hDd.out W, decide_eq_true rfl]
            have hsub : (j : Int) - 1 = (kk : Int) := by have := hkk.out; omega
            have kk0 : (0 : Int) ≤ (kk : Int) := by omega
            have kk1 : (kk : Int) < (j : Int) := by omega
            have kk8 : IntKind.i64.wrap (kk : Int) = (kk : Int) := by have h : (kk : Int) ≤ 8 := by omega
                                                                      rw [IntKind.wrap_i64]; omega
            have hBd' : Blk wq db 45 (dirC D.priv la ln lc (some ⟨rb, ro, none⟩) j rc) := by rw [← era]; exact hBd
            clear hBd hz hkl hr hlast hrg0 hok hD0 era hqq
            have hBd := hBd'
            clear hBd'
            refine wp_region_held_drew (S := fun wz => Below wq.heap.size wq wz) (by kernel_rfl) ((Below.refl _ wq).drew) (fun hHeld => ?_)
            generalize hW0 : wq.drew = W0 at *
            clear hW0
            refine wpAnyH_take (i := 0) (oi := { dst := some 115, op := Op.fieldAddr 45 (Operand.tmp 8) 2, type := 0, pos := "law.go:191", after := #[], guard := none }) (v := ?_) rfl (by kernel_rfl) (by kernel_rfl) (by kernel_rfl) (fun _ _ _ h => h) (Or.inl ⟨by rfl, ?_⟩) hHeld ?_
            rotate_left
            · intro wz hSw
              go_simp
              all_goals (with_reducible rfl)
            try simp only [Act.put, List.setIfInBounds_toArray, List.set_cons_zero, List.set_cons_succ]
            refine wpAnyH_take (i := 1) (oi := { dst := some 116, op := Op.load 43 (Operand.tmp 115), type := 43, pos := "law.go:191", after := #[{ on := 0, ground := Ground.data }], guard := none }) (v := ?_) rfl (by kernel_rfl) (by kernel_rfl) (by kernel_rfl) (fun _ _ _ h => h) (Or.inl ⟨by rfl, ?_⟩) hHeld ?_
            rotate_left
            · intro wz hSw
              have q2 := (hBd.below hSw nd).at_ (i := 2) (x := .slice (some ⟨rb, ro, none⟩) j rc) rfl
              go_simp
              all_goals (with_reducible rfl)
            try simp only [Act.put, List.setIfInBounds_toArray, List.set_cons_zero, List.set_cons_succ]
            refine wpAnyH_take (i := 2) (oi := { dst := some 117, op := Op.call { callee := Callee.builtin Builtin.len, args := #[Operand.tmp 116], argTypes := #[43] }, type := 3, pos := "law.go:191", after := #[{ on := 1, ground := Ground.data }], guard := none }) (v := ?_) rfl (by kernel_rfl) (by kernel_rfl) (by kernel_rfl) (fun _ _ _ h => h) (Or.inl ⟨by rfl, ?_⟩) hHeld ?_
            rotate_left
            · intro wz hSw
              go_simp
              all_goals (with_reducible rfl)
            try simp only [Act.put, List.setIfInBounds_toArray, List.set_cons_zero, List.set_cons_succ]
            refine wpAnyH_take (i := 3) (oi := { dst := some 118, op := Op.move (Operand.tmp 12), type := 3, pos := "law.go:191", after := #[], guard := none }) (v := ?_) rfl (by kernel_rfl) (by kernel_rfl) (by kernel_rfl) (fun _ _ _ h => h) (Or.inl ⟨by rfl, ?_⟩) hHeld ?_
            rotate_left
            · intro wz hSw
              go_simp
              all_goals (with_reducible rfl)
            try simp only [Act.put, List.setIfInBounds_toArray, List.set_cons_zero, List.set_cons_succ]
            refine wpAnyH_take (i := 4) (oi := { dst := some 119, op := Op.binOp BinOp.eql 3 (Operand.tmp 117) (Operand.tmp 118) 3, type := 4, pos := "law.go:191", after := #[{ on := 2, ground := Ground.data }, { on := 3, ground := Ground.data }], guard := none }) (v := ?_) rfl (by kernel_rfl) (by kernel_rfl) (by kernel_rfl) (fun _ _ _ h => h) (Or.inl ⟨by rfl, ?_⟩) hHeld ?_
            rotate_left
            · intro wz hSw
              go_simp
              all_goals (with_reducible rfl)
            try simp only [Act.put, List.setIfInBounds_toArray, List.set_cons_zero, List.set_cons_succ]
            refine wpAnyH_take (i := 5) (oi := { dst := some 120, op := Op.move (Operand.tmp 119), type := 4, pos := "law.go:191", after := #[{ on := 4, ground := Ground.data }], guard := none }) (v := ?_) rfl (by kernel_rfl) (by kernel_rfl) (by kernel_rfl) (fun _ _ _ h => h) (Or.inl ⟨by rfl, ?_⟩) hHeld ?_
            rotate_left
            · intro wz hSw
              go_simp
              all_goals (with_reducible rfl)
            try simp only [Act.put, List.setIfInBounds_toArray, List.set_cons_zero, List.set_cons_succ]
            refine wpAnyH_take (i := 6) (oi := { dst := some 121, op := Op.fieldAddr 45 (Operand.tmp 8) 1, type := 0, pos := "law.go:191", after := #[{ on := 5, ground := Ground.guard }], guard := some (5, true) }) (v := ?_) rfl (by kernel_rfl) (by kernel_rfl) (by kernel_rfl) (fun _ _ _ h => h) (Or.inl ⟨by rfl, ?_⟩) hHeld ?_
            rotate_left
            · intro wz hSw
              go_simp
              all_goals (with_reducible rfl)
            try simp only [Act.put, List.setIfInBounds_toArray, List.set_cons_zero, List.set_cons_succ]
            refine wpAnyH_take (i := 7) (oi := { dst := some 122, op := Op.load 22 (Operand.tmp 121), type := 22, pos := "law.go:191", after := #[{ on := 6, ground := Ground.data }, { on := 5, ground := Ground.guard }], guard := some (5, true) }) (v := ?_) rfl (by kernel_rfl) (by kernel_rfl) (by kernel_rfl) (fun _ _ _ h => h) (Or.inl ⟨by rfl, ?_⟩) hHeld ?_
            rotate_left
            · intro wz hSw
              have q1 := (hBd.below hSw nd).at_ (i := 1) (x := .slice la ln lc) rfl
              go_simp
              all_goals (with_reducible rfl)
            try simp only [Act.put, List.setIfInBounds_toArray, List.set_cons_zero, List.set_cons_succ]
            refine wpAnyH_ready (rs := [8]) (by kernel_rfl) (by simp) ?_
            refine AllReadyH.cons (o := { dst := some 123, op := Op.call { callee := Callee.value (Operand.func 20), args := #[Operand.tmp 122], argTypes := #[22] }, type := 25, pos := "law.go:191", after := #[{ on := 7, ground := Ground.data }, { on := 5, ground := Ground.chain }, { on := 5, ground := Ground.guard }], guard := some (5, true) }) rfl (fun K hK => ?_) AllReadyH.nil
            rw [if_pos (by rfl)]
            show Oper.wp _ _ _ _ K _
            go_simp
            go_at_call 20
            refine (hck.out _ (hgq.out.below hHeld)).mono ?_
            rintro e W1 ⟨rfl, hst⟩
            refine hK.out _ _ (hHeld.trans (hst.mono hHeld.size)) (fun hHeld2 => ?_)
            have hHeld := hHeld2
            clear hK K
            try simp only [Act.put, List.setIfInBounds_toArray, List.set_cons_zero, List.set_cons_succ]
            refine wpAnyH_take (i := 9) (oi := { dst := some 124, op := Op.binOp BinOp.eql 25 (Operand.tmp 123) (Operand.const (Value.int IntKind.i64 0)) 25, type := 4, pos := "law.go:191", after := #[{ on := 8, ground := Ground.data }, { on := 5, ground := Ground.guard }], guard := some (5, true) }) (v := ?_) rfl (by kernel_rfl) (by kernel_rfl) (by kernel_rfl) (fun _ _ _ h => h) (Or.inl ⟨by rfl, ?_⟩) hHeld ?_
            rotate_left
            · intro wz hSw
              go_simp
              all_goals (with_reducible rfl)
            try simp only [Act.put, List.setIfInBounds_toArray, List.set_cons_zero, List.set_cons_succ]
            refine wpAnyH_take (i := 10) (oi := { dst := some 125, op := Op.pick (Operand.tmp 120) (Operand.tmp 124) (Operand.const (Value.bool false)), type := 4, pos := "law.go:191", after := #[{ on := 5, ground := Ground.data }, { on := 9, ground := Ground.data }], guard := none }) (v := ?_) rfl (by kernel_rfl) (by kernel_rfl) (by kernel_rfl) (fun _ _ _ h => h) (Or.inl ⟨by rfl, ?_⟩) hHeld ?_
            rotate_left
            · intro wz hSw
              go_simp
              all_goals (with_reducible rfl)
            try simp only [Act.put, List.setIfInBounds_toArray, List.set_cons_zero, List.set_cons_succ]
            refine wpAnyH_take (i := 11) (oi := { dst := some 126, op := Op.move (Operand.tmp 125), type := 4, pos := "law.go:191", after := #[{ on := 10, ground := Ground.data }, { on := 8, ground := Ground.chain }], guard := none }) (v := ?_) rfl (by kernel_rfl) (by kernel_rfl) (by kernel_rfl) (fun _ _ _ h => h) (Or.inl ⟨by rfl, ?_⟩) hHeld ?_
            rotate_left
            · intro wz hSw
              go_simp
              all_goals (with_reducible rfl)
            try simp only [Act.put, List.setIfInBounds_toArray, List.set_cons_zero, List.set_cons_succ]
            refine wpAnyH_take (i := 12) (oi := { dst := some 127, op := Op.move (Operand.tmp 12), type := 3, pos := "law.go:191", after := #[{ on := 11, ground := Ground.guard }], guard := some (11, true) }) (v := ?_) rfl (by kernel_rfl) (by kernel_rfl) (by kernel_rfl) (fun _ _ _ h => h) (Or.inl ⟨by rfl, ?_⟩) hHeld ?_
            rotate_left
            · intro wz hSw
              go_simp
              all_goals (with_reducible rfl)
            try simp only [Act.put, List.setIfInBounds_toArray, List.set_cons_zero, List.set_cons_succ]
            refine wpAnyH_take (i := 13) (oi := { dst := some 128, op := Op.binOp BinOp.eql 3 (Operand.tmp 127) (Operand.const (Value.int IntKind.i64 0)) 3, type := 4, pos := "law.go:191", after := #[{ on := 12, ground := Ground.data }, { on := 11, ground := Ground.guard }], guard := some (11, true) }) (v := ?_) rfl (by kernel_rfl) (by kernel_rfl) (by kernel_rfl) (fun _ _ _ h => h) (Or.inl ⟨by rfl, ?_⟩) hHeld ?_
            rotate_left
            · intro wz hSw
              go_simp
              all_goals (with_reducible rfl)
            try simp only [Act.put, List.setIfInBounds_toArray, List.set_cons_zero, List.set_cons_succ]
            refine wpAnyH_take (i := 14) (oi := { dst := some 129, op := Op.move (Operand.tmp 128), type := 4, pos := "law.go:191", after := #[{ on := 13, ground := Ground.data }, { on := 11, ground := Ground.chain }, { on := 11, ground := Ground.guard }], guard := some (11, true) }) (v := ?_) rfl (by kernel_rfl) (by kernel_rfl) (by kernel_rfl) (fun _ _ _ h => h) (Or.inl ⟨by rfl, ?_⟩) hHeld ?_
            rotate_left
            · intro wz hSw
              go_simp
              all_goals (with_reducible rfl)
            try simp only [Act.put, List.setIfInBounds_toArray, List.set_cons_zero, List.set_cons_succ]
            refine wpAnyH_take (i := 15) (oi := { dst := some 130, op := Op.fieldAddr 45 (Operand.tmp 8) 2, type := 0, pos := "law.go:191", after := #[{ on := 14, ground := Ground.guard }], guard := some (14, false) }) (v := ?_) rfl (by kernel_rfl) (by kernel_rfl) (by kernel_rfl) (fun _ _ _ h => h) (Or.inl ⟨by rfl, ?_⟩) hHeld ?_
            rotate_left
            · intro wz hSw
              go_simp
              all_goals (with_reducible rfl)
            try simp only [Act.put, List.setIfInBounds_toArray, List.set_cons_zero, List.set_cons_succ]
            refine wpAnyH_take (i := 16) (oi := { dst := some 131, op := Op.load 43 (Operand.tmp 130), type := 43, pos := "law.go:191", after := #[{ on := 15, ground := Ground.data }, { on := 14, ground := Ground.guard }], guard := some (14, false) }) (v := ?_) rfl (by kernel_rfl) (by kernel_rfl) (by kernel_rfl) (fun _ _ _ h => h) (Or.inl ⟨by rfl, ?_⟩) hHeld ?_
            rotate_left
            · intro wz hSw
              have q2 := (hBd.below hSw nd).at_ (i := 2) (x := .slice (some ⟨rb, ro, none⟩) j rc) rfl
              go_simp
              all_goals (with_reducible rfl)
            try simp only [Act.put, List.setIfInBounds_toArray, List.set_cons_zero, List.set_cons_succ]
            refine wpAnyH_take (i := 17) (oi := { dst := some 132, op := Op.move (Operand.tmp 12), type := 3, pos := "law.go:191", after := #[{ on := 14, ground := Ground.guard }], guard := some (14, false) }) (v := ?_) rfl (by kernel_rfl) (by kernel_rfl) (by kernel_rfl) (fun _ _ _ h => h) (Or.inl ⟨by rfl, ?_⟩) hHeld ?_
            rotate_left
            · intro wz hSw
              go_simp
              all_goals (with_reducible rfl)
            try simp only [Act.put, List.setIfInBounds_toArray, List.set_cons_zero, List.set_cons_succ]
            refine wpAnyH_take (i := 18) (oi := { dst := some 133, op := Op.binOp BinOp.sub 3 (Operand.tmp 132) (Operand.const (Value.int IntKind.i64 1)) 3, type := 3, pos := "law.go:191", after := #[{ on := 17, ground := Ground.data }, { on := 14, ground := Ground.guard }], guard := some (14, false) }) (v := ?_) rfl (by kernel_rfl) (by kernel_rfl) (by kernel_rfl) (fun _ _ _ h => h) (Or.inl ⟨by rfl, ?_⟩) hHeld ?_
            rotate_left
            · intro wz hSw
              go_simp
              all_goals (with_reducible rfl)
            try simp only [Act.put, List.setIfInBounds_toArray, List.set_cons_zero, List.set_cons_succ]
            refine wpAnyH_take (i := 19) (oi := { dst := some 134, op := Op.indexAddr 43 (Operand.tmp 131) (Operand.tmp 133), type := 0, pos := "law.go:191", after := #[{ on := 16, ground := Ground.data }, { on := 18, ground := Ground.data }, { on := 14, ground := Ground.guard }], guard := some (14, false) }) (v := ?_) rfl (by kernel_rfl) (by kernel_rfl) (by kernel_rfl) (fun _ _ _ h => h) (Or.inl ⟨by rfl, ?_⟩) hHeld ?_
            rotate_left
            · intro wz hSw
              go_simp
              all_goals (with_reducible rfl)
            try simp only [Act.put, List.setIfInBounds_toArray, List.set_cons_zero, List.set_cons_succ]
            refine wpAnyH_take (i := 20) (oi := { dst := some 135, op := Op.fieldAddr 55 (Operand.tmp 134) 1, type := 0, pos := "law.go:191", after := #[{ on := 19, ground := Ground.data }, { on := 14, ground := Ground.guard }], guard := some (14, false) }) (v := ?_) rfl (by kernel_rfl) (by kernel_rfl) (by kernel_rfl) (fun _ _ _ h => h) (Or.inl ⟨by rfl, ?_⟩) hHeld ?_
            rotate_left
            · intro wz hSw
              go_simp
              all_goals (with_reducible rfl)
            try simp only [Act.put, List.setIfInBounds_toArray, List.set_cons_zero, List.set_cons_succ]
            refine wpAnyH_take (i := 21) (oi := { dst := some 136, op := Op.load 35 (Operand.tmp 135), type := 35, pos := "law.go:191", after := #[{ on := 20, ground := Ground.data }, { on := 14, ground := Ground.guard }], guard := some (14, false) }) rfl (by kernel_rfl) (by kernel_rfl) (by kernel_rfl) (fun _ _ _ h => h) (yieldsIf_load_mid (by rfl) _ _ rfl rb (ro + kk * 67 + 1) rfl (bv D0) _ (fun wz h => fun j u hj => (h.cell (p := ⟨rb, _, none⟩) hbl).trans (hrr.out j u hj)) Tryd.underlying35 rfl (zi1.out)) hHeld ?_
            try simp only [Act.put, List.setIfInBounds_toArray, List.set_cons_zero, List.set_cons_succ]
            refine wpAnyH_take (i := 22) (oi := { dst := some 137, op := Op.fieldAddr 45 (Operand.tmp 8) 1, type := 0, pos := "law.go:191", after := #[{ on := 14, ground := Ground.guard }], guard := some (14, false) }) (v := ?_) rfl (by kernel_rfl) (by kernel_rfl) (by kernel_rfl) (fun _ _ _ h => h) (Or.inl ⟨by rfl, ?_⟩) hHeld ?_
            rotate_left
            · intro wz hSw
              go_simp
              all_goals (with_reducible rfl)
            try simp only [Act.put, List.setIfInBounds_toArray, List.set_cons_zero, List.set_cons_succ]
            refine wpAnyH_take (i := 23) (oi := { dst := some 138, op := Op.load 22 (Operand.tmp 137), type := 22, pos := "law.go:191", after := #[{ on := 22, ground := Ground.data }, { on := 14, ground := Ground.guard }], guard := some (14, false) }) (v := ?_) rfl (by kernel_rfl) (by kernel_rfl) (by kernel_rfl) (fun _ _ _ h => h) (Or.inl ⟨by rfl, ?_⟩) hHeld ?_
            rotate_left
            · intro wz hSw
              have q1 := (hBd.below hSw nd).at_ (i := 1) (x := .slice la ln lc) rfl
              go_simp
              all_goals (with_reducible rfl)
            try simp only [Act.put, List.setIfInBounds_toArray, List.set_cons_zero, List.set_cons_succ]
            refine wpAnyH_ready (rs := [24]) (by kernel_rfl) (by simp) ?_
            refine AllReadyH.cons (o := { dst := some 139, op := Op.call { callee := Callee.value (Operand.func 11), args := #[Operand.tmp 138], argTypes := #[22] }, type := 35, pos := "law.go:191", after := #[{ on := 23, ground := Ground.data }, { on := 14, ground := Ground.chain }, { on := 14, ground := Ground.guard }], guard := some (14, false) }) rfl (fun K hK => ?_) AllReadyH.nil
            rw [if_pos (by rfl)]
            show Oper.wp _ _ _ _ K _
            go_simp
            go_at_call 11
            refine (hdg.out _ (HT'.out.below (hbq.out.trans (hHeld.mono hbq.out.size))) (hgq.out.below hHeld)).mono ?_
            rintro e W2 ⟨rfl, hst⟩
            refine hK.out _ _ (hHeld.trans (hst.mono hHeld.size)) (fun hHeld2 => ?_)
            have hHeld := hHeld2
            clear hK K
            try simp only [Act.put, List.setIfInBounds_toArray, List.set_cons_zero, List.set_cons_succ]
            refine wpAnyH_take (i := 25) (oi := { dst := some 140, op := Op.binOp BinOp.eql 35 (Operand.tmp 136) (Operand.tmp 139) 35, type := 4, pos := "law.go:191", after := #[{ on := 21, ground := Ground.data }, { on := 24, ground := Ground.data }, { on := 14, ground := Ground.guard }], guard := some (14, false) }) (v := ?_) rfl (by kernel_rfl) (by kernel_rfl) (by kernel_rfl) (fun _ _ _ h => h) (Or.inl ⟨by rfl, ?_⟩) hHeld ?_
            rotate_left
            · intro wz hSw
              go_simp
              all_goals (with_reducible rfl)
            try simp only [Act.put, List.setIfInBounds_toArray, List.set_cons_zero, List.set_cons_succ]
            refine wpAnyH_take (i := 26) (oi := { dst := some 141, op := Op.pick (Operand.tmp 129) (Operand.const (Value.bool true)) (Operand.tmp 140), type := 4, pos := "law.go:191", after := #[{ on := 14, ground := Ground.data }, { on := 25, ground := Ground.data }, { on := 11, ground := Ground.guard }], guard := some (11, true) }) (v := ?_) rfl (by kernel_rfl) (by kernel_rfl) (by kernel_rfl) (fun _ _ _ h => h) (Or.inl ⟨by rfl, ?_⟩) hHeld ?_
            rotate_left
            · intro wz hSw
              go_simp
              all_goals (with_reducible rfl)
            try simp only [Act.put, List.setIfInBounds_toArray, List.set_cons_zero, List.set_cons_succ]
            refine wpAnyH_take (i := 27) (oi := { dst := some 142, op := Op.pick (Operand.tmp 126) (Operand.tmp 141) (Operand.const (Value.bool false)), type := 4, pos := "law.go:191", after := #[{ on := 11, ground := Ground.data }, { on := 26, ground := Ground.data }], guard := none }) (v := ?_) rfl (by kernel_rfl) (by kernel_rfl) (by kernel_rfl) (fun _ _ _ h => h) (Or.inl ⟨by rfl, ?_⟩) hHeld ?_
            rotate_left
            · intro wz hSw
              go_simp
              all_goals (with_reducible rfl)
            try simp only [Act.put, List.setIfInBounds_toArray, List.set_cons_zero, List.set_cons_succ]
            refine wpAnyH_take (i := 28) (oi := { dst := some 6, op := Op.assign (Operand.tmp 142), type := 4, pos := "law.go:191", after := #[{ on := 27, ground := Ground.data }, { on := 24, ground := Ground.chain }, { on := 0, ground := Ground.phase }, { on := 1, ground := Ground.phase }, { on := 2, ground := Ground.phase }, { on := 3, ground := Ground.phase }, { on := 4, ground := Ground.phase }, { on := 5, ground := Ground.phase }, { on := 6, ground := Ground.phase }, { on := 7, ground := Ground.phase }, { on := 8, ground := Ground.phase }, { on := 9, ground := Ground.phase }, { on := 10, ground := Ground.phase }, { on := 11, ground := Ground.phase }, { on := 12, ground := Ground.phase }, { on := 13, ground := Ground.phase }, { on := 14, ground := Ground.phase }, { on := 15, ground := Ground.phase }, { on := 16, ground := Ground.phase }, { on := 17, ground := Ground.phase }, { on := 18, ground := Ground.phase }, { on := 19, ground := Ground.phase }, { on := 20, ground := Ground.phase }, { on := 21, ground := Ground.phase }, { on := 22, ground := Ground.phase }, { on := 23, ground := Ground.phase }, { on := 24, ground := Ground.phase }, { on := 25, ground := Ground.phase }, { on := 26, ground := Ground.phase }, { on := 27, ground := Ground.phase }], guard := none }) (v := ?_) rfl (by kernel_rfl) (by kernel_rfl) (by kernel_rfl) (fun _ _ _ h => h) (Or.inl ⟨by rfl, ?_⟩) hHeld ?_
            rotate_left
            · intro wz hSw
              go_simp
              all_goals (with_reducible rfl)
            try simp only [Act.put, List.setIfInBounds_toArray, List.set_cons_zero, List.set_cons_succ]
            refine wpAnyH_done (by kernel_rfl) ?_ _
            have hend := hfin.out _ (hbq.out.trans (hHeld.mono hbq.out.size))
            go_wp2_with fail
            exact hend
end Go.Proofs.YtjmggmicnkfacaaDoor
namespace Go.Proofs.YtjmggmicnkfacaaDoor.lawHistory
open Go.ChangeShapes Go.WideShapes Go.ChangeAt Go.RowKit Go.Mem
open Go.Proofs.YtjmggmicnkfacaaDoor

set_option maxRecDepth 100000 in
theorem lifted (os : Os) (started : os.Started) (H : Type) (enc : TypeId × Value → H) :
    ReturnsInHanded {} Tryd.checked os 5 .any (fun w args => (Rows.directoryHistorySpec.pre enc Tryd.prog Tryd.f5 [] false w args ∧ laidMetH Tryd.prog laid2 w) ∧ sizedMet enc Tryd.prog Tryd.f5 (OpenSpec.ofChange Rows.directoryHistorySpec) false w args)
      (Rows.directoryHistorySpec.post enc Tryd.prog Tryd.f5 false true false false) := by
  refine returnsInHanded_of_change_and (C := Tryd.checked) (X := fun w _ => laidMetH Tryd.prog laid2 w) (fun _ _ _ hh h => h.of_heap hh) own started (by kernel_rfl) Tryd.func5
    (ChangeSpec.witness_shaped (enc := enc) (C := Tryd.checked) (os := os) (X := fun w _ => laidMetH Tryd.prog laid2 w) false (World.doorLaid Tryd.prog 400 os) #[.int .i64 0, .slice none 0 0, .int .u8 0] 8 rfl (World.shaped_of_RefB (by kernel_rfl) (by kernel_rfl)) (by kernel_rfl) (by kernel_rfl) (by kernel_rfl) (door_met os _)) ?_
  intro W base args ds gs before hval0 hW _ hwt hL _
  have hval : ∀ (j : Nat) t v, Tryd.f5.params[j]? = some t → args[j]? = some v → Value.okWide Tryd.prog W .any base t v := hval0
  have hW' := hW
  obtain ⟨p, q, hA0, hV, rfl, hfz, hnd⟩ := hW
  have hA : DataW.TrodAll enc Tryd.prog W 0 (fun _ => true) true Tryd.f5.params.toList args.toList ds p := hA0
  rw [Tryd.params5] at hA hval
  obtain ⟨v0, vs0, d0, ds0, p0, q0, hargs, rfl, rfl, h0, r0⟩ := trodAll_cons hA
  obtain ⟨v1, vs1, d1, ds1, p1, q1, rfl, rfl, rfl, h1, r1⟩ := trodAll_cons r0
  obtain ⟨v2, vs2, d2, ds2, p2, q2, rfl, rfl, rfl, h2, r2⟩ := trodAll_cons r1
  obtain ⟨rfl, rfl, rfl⟩ := trodAll_nil r2
  obtain rfl : args = #[v0, v1, v2] := by cases args; simp_all
  obtain ⟨rfl, rfl⟩ := trodVars_none hV
  have lt0 : ∀ x ∈ p0, x.block < W.heap.size := by obtain ⟨m, hm⟩ := h0; exact DataW.trod_lt m _ _ _ hm
  have lt1 : ∀ x ∈ p1, x.block < W.heap.size := by obtain ⟨m, hm⟩ := h1; exact DataW.trod_lt m _ _ _ hm
  have lt2 : ∀ x ∈ p2, x.block < W.heap.size := by obtain ⟨m, hm⟩ := h2; exact DataW.trod_lt m _ _ _ hm
  have k0' := h0
  have k1' := h1
  have k2' := h2
  obtain ⟨x0, rfl⟩ := okWide_int Tryd.underlying3 (hval 0 3 v0 rfl rfl)
  obtain ⟨m0, hm0⟩ := h0
  obtain ⟨x0', e0, i0⟩ := open_int1 (cs := [.int .i64 x0]) (by simpa [Value.cells] using hm0)
  obtain rfl : x0 = x0' := by simpa using e0
  clear hm0 e0
  obtain ⟨a1, n1, c1, rfl⟩ := okWide_slice Tryd.underlying22 (hval 1 22 v1 rfl rfl)
  obtain ⟨m1, hm1⟩ := h1
  obtain ⟨_, _, _, l1, e1, S1⟩ := open_lss (cs := [.slice a1 n1 c1]) (by simpa [Value.cells] using hm1)
  simp only [List.cons.injEq, Value.slice.injEq, and_true] at e1
  obtain ⟨rfl, rfl, rfl⟩ := e1
  clear hm1
  obtain ⟨z2, rfl⟩ := okWide_int Tryd.underlying5 (hval 2 5 v2 rfl rfl)
  obtain ⟨m2, hm2⟩ := h2
  obtain ⟨x2, e2, i2⟩ := open_u8 (cs := [.int .u8 z2]) (by simpa [Value.cells] using hm2)
  obtain rfl : z2 = (x2 : Int) := by simpa using e2
  clear hm2 e2
  have hT := tabs_of_laid hL
  clear hA0 hval0
  refine (history_walk x0 i0 a1 n1 c1 l1 x2 i2 W hT S1).mono fun e W' ⟨he, bel⟩ => ?_
  subst he
  exact ⟨_, rfl, _, _, _, [], _, [], hW', trodAll_mk1 (shut_bool Tryd.underlying4 _),
    (trodAll_cons_mk (Below.trod laidOut (by kernel_rfl) (of_decide_eq_true (by kernel_rfl)) k0' bel lt0) (trodAll_cons_mk (Below.trod laidOut (by kernel_rfl) (of_decide_eq_true (by kernel_rfl)) k1' bel lt1) (trodAll_cons_mk (Below.trod laidOut (by kernel_rfl) (of_decide_eq_true (by kernel_rfl)) k2' bel lt2) trodAll_mk0))), rfl, bel.frame _, fun h => by cases h⟩

theorem over : Rows.DirectoryHistorySaid :=
  OpenClaim.holds_of_wide 5 Tryd.f5 rfl rfl rfl rfl rfl rfl rfl ⟨rfl, rfl, rfl, rfl, rfl⟩ rfl rfl rfl rfl rfl (by kernel_rfl) Tryd.func5 (by kernel_rfl)
    (of_decide_eq_true (by kernel_rfl)) (by unfold Func.isWrapper; first | (rw [if_pos (by decide +kernel)]; kernel_rfl) | (rw [if_neg (by decide +kernel)]; exact ⟨rfl, rfl⟩))
    (fun os started H enc _ => lifted os started H enc)

theorem proved : Rows.DirectoryHistoryCardSaid :=
  Claim7.holds_tied_plain_at .later [] [.data, .data, .sentinel] true (true, "1557d4907a95d2214c9597103dd117e953a091d85ddce6dd943560b7cea1b4cb") false
    over (fun _ h => by cases h) (by kernel_rfl) (fun _ h => by cases h) directoryHistory_row_tie rfl ⟨rfl, rfl⟩ (by kernel_rfl) rfl
    (fun f fn hf hfn => by
      obtain rfl : f = 5 := Option.some.inj ((show Tryd.prog.funcNamed "chartroom/chartroomlaw35.DirectoryHistory" = some 5 by kernel_rfl).symm.trans hf) |>.symm
      obtain rfl : fn = Tryd.f5 := (Option.some.inj (Tryd.func5.symm.trans hfn)).symm
      exact ⟨by kernel_rfl, fun j t ht => by
        rw [Tryd.params5] at ht
        have hm : t ∈ [3, 22, 5] := by simpa using Array.mem_of_getElem? ht
        have hall : ([3, 22, 5].all fun u => !Tryd.prog.wantsStandIn u) = true := by kernel_rfl
        exact (show Tryd.prog.wantsStandIn t = false by simpa using List.all_eq_true.1 hall t hm)⟩)
    (by kernel_rfl)
#print axioms proved
end Go.Proofs.YtjmggmicnkfacaaDoor.lawHistory

