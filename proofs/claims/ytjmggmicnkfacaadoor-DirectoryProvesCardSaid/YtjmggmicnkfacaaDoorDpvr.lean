/- the law DirectoryProves walked -/
import Derived.Test.YtjmggmicnkfacaaDoorSnd
import Derived.Test.YtjmggmicnkfacaaDoorOpd
import Derived.Test.YtjmggmicnkfacaaDoorCards
import Derived.Test.YtjmggmicnkfacaaDoorTie
import Derived.SevenTiedAt
import Derived.Deep.DeepHandedRow
import Derived.Deep.DeepWitnessRowRef
namespace Go.Proofs.YtjmggmicnkfacaaDoor
open Go.RowKit Go.Mem
open Go.Dr (Lst Rt Dir exL)

/-- what the loop has found. -/
def FndP (l : List Lst) (dev : Int) (k : Nat) (y : Lst) (b : Bool) : Prop := OkG y ∧ ((b = true ∧ Go.Dr.ofL l dev = some y) ∨ (b = false ∧ y.dev = dev ∧ ∀ (j : Nat) z, j < k → l[j]? = some z → z.dev ≠ dev))
set_option maxRecDepth 100000 in
set_option maxHeartbeats 20000000 in
theorem proves_walk (a : Option Addr) (n c : Nat) (l : List Lst) (dev : Int) (hd : I64 dev) (w : World) (HT : Tabs w) (H : GS (fun _ => True) w a n c l) :
    Calls Tryd.prog 3 #[.slice a n c, .int .i64 dev] w (RetBo true w) := by
  have HT' := Lib.hid HT; have H' := Lib.hid H; have hd' := Lib.hid hd
  have hlen := RS.len H
  have n63 : (n : Int) ≤ 9223372036854775807 := by have := RS.le H; have := RS.max H; omega
  clear HT H hd
  obtain ⟨X, hX⟩ : ∃ X, X = RetBo true w := ⟨_, rfl⟩
  have hfin : Hid (∀ W, Below w.heap.size w W → X (.returned (.bool true)) W) := fun W hb => by rw [hX]; exact ⟨rfl, hb⟩
  rw [← hX]
  clear hX
  go_enter Tryd.func3, Tryd.ntmps3
  go_wp2_with fail
  refine (sane35_any w HT'.out).mono ?_
  rintro e w1 ⟨rfl, hb1⟩
  have hT1 := Lib.hid (HT'.out.below hb1); have hG1 := Lib.hid (H'.out.below hb1)
  have hb1' := Lib.hid hb1
  clear hb1
  by_cases hn : n ≤ 20
  · have hn' : decide ((20 : Int) < (n : Int)) = false := by simp; omega
    go_wp2_with fail
    by_cases hin : 0 ≤ dev ∧ dev < 512
    · refine (prove_at hin hT1.out hG1.out).mono ?_
      rintro e w2 ⟨pa, pc, rfl, hS, hb2⟩
      have hS2 := Lib.hid hS
      have hb2' := Lib.hid (hb1'.out.trans (hb2.mono hb1'.out.size))
      clear hb2 hS
      go_wp2_with fail
      refine (copath_any dev hd'.out w2).mono ?_
      rintro e w3 (⟨_, _, ca, cc, rfl, _, hb3⟩ | ⟨hno, _, _⟩)
      case inr => exact absurd hin hno
      have hS3 := Lib.hid (hS2.out.below hb3)
      have hb3' := Lib.hid (hb2'.out.trans (hb3.mono hb2'.out.size))
      have hG3 := Lib.hid (H'.out.below hb3'.out)
      obtain ⟨xb, hxb⟩ : ∃ xb, Hid (w3.heap.size = xb) := ⟨_, rfl⟩
      clear hb3 hS2 hb2' hb1' hT1 hG1
      go_wp2_with fail
      rw [hxb.out]
      generalize hW4 : w3.alloc _ = W4
      have hY4 : Hid (Blk W4 xb 32 (gC ⟨dev, 0, 0, 0, false⟩)) := by rw [← hW4, ← hxb.out]; exact Blk.new w3 _ (gC ⟨dev, 0, 0, 0, false⟩)
      have hb4' : Hid (Below xb w3 W4) := by rw [← hW4, ← hxb.out]; exact (Below.refl _ w3).alloc (Nat.le_refl _) _
      clear hW4
      go_loopw [10, 11] (fun bv kv wr => ∃ (k : Nat) (y : Lst) (b : Bool), k ≤ n ∧ bv = .bool b ∧ kv = .int .i64 k ∧ Hid (Blk wr xb 32 (gC y)) ∧ Hid (Below xb w3 wr) ∧ Hid (FndP l dev k y b)) (fun _ kv _ => n - (intOf kv).toNat)
      case atStart => exact ⟨0, _, false, Nat.zero_le _, rfl, rfl, hY4, hb4', ⟨hd'.out, i64_0, i64_0, i64_0⟩, .inr ⟨rfl, rfl, fun _ _ h => absurd h (by omega)⟩⟩
      case round =>
        obtain ⟨k, y, b, hk, rfl, rfl, hY, hbr, hfd⟩ := hrel
        by_cases hlt : k < n
        · have hkl : k < l.length := by omega
          obtain ⟨x, hx⟩ : ∃ x, l[k]? = some x := ⟨_, List.getElem?_eq_getElem hkl⟩
          have hGr := hG3.out.below (w' := wr) (by rw [hxb.out]; exact hbr.out)
          obtain ⟨b2, off, rfl, hbl, _, hox, hrg⟩ := GS.cells hGr hx
          have x0 : wr.cell? ⟨b2, off + k * 5, none⟩ = some (.int .i64 x.dev) := by have := hrg 0 _ rfl; rwa [Nat.add_zero] at this
          have k0 : (0 : Int) ≤ (k : Int) := by omega
          have k1 : (k : Int) < (n : Int) := by omega
          by_cases hde : x.dev = dev
          · have hde' : (x.dev == dev) = true := by simpa using hde
            cases b with
            | true =>
              have hnx : Hid (FndP l dev (k + 1) y true) := by
                obtain ⟨ho, h | h⟩ := hfd.out
                · exact ⟨ho, .inl h⟩
                · exact absurd h.1 (by simp)
              clear hrg hx hde hGr hkl hfd
              go_wp2_with fail
              go_roundw
              case rel => exact ⟨k + 1, y, true, by omega, rfl, by go_num, hY, hbr, hnx⟩
              case measure => simp [intOf]; omega
            | false =>
              have hnx : Hid (FndP l dev (k + 1) x true) := by
                obtain ⟨ho, h | h⟩ := hfd.out
                · exact absurd h.1 (by simp)
                · exact ⟨hox, .inl ⟨rfl, Go.Dr.ofL_at hx hde h.2.2⟩⟩
              have hrg' := Lib.hid hrg
              have hri : Hid ((Tryd.prog.info? 32).map (·.size) = some (gC x).length) := sizeG
              obtain ⟨W5, hP⟩ := put_row (ty := 32) hY.out (x := gC x) rfl sizeG (gC_one x)
              have hP' := Lib.hid hP
              have hY5 := Lib.hid hP.blk
              have hb5 : Hid (Below xb w3 W5) := hbr.out.grown hP.grown (by have := hbr.out.size; have := hxb.out; omega) (fun r e => by cases e; exact Nat.le_refl _)
              obtain ⟨r, hr⟩ : ∃ r, Hid (gC x = r) := ⟨_, rfl⟩
              rw [hr.out] at hrg' hri hP'
              clear hrg hx hde hGr hkl hfd hP hY hbr
              go_wp2_with (first
                | (refine wpList_load_mid (by rfl) 32 (.tmp 64) (by rfl) b2 (off + k * 5) (by rfl) r _ hrg'.out Tryd.underlying32 (by rfl) hri.out ?_)
                | (refine wpList_store_mid (by rfl) 32 (.tmp 9) (.tmp 65) (by rfl) xb 0 r.toArray (by rfl) (by rfl) hP'.out.there hP'.out.info (by simpa using hP'.out.one) ?_
                   generalize hWq : World.setCells _ _ _ _ = Wa
                   obtain rfl : W5 = Wa := by rw [← hWq]; exact hP'.out.eq
                   clear hWq))
              go_roundw
              case rel => exact ⟨k + 1, x, true, by omega, rfl, by go_num, hY5, hb5, hnx⟩
              case measure => simp [intOf]; omega
          · have hde' : (x.dev == dev) = false := by simpa using hde
            have hnx : Hid (FndP l dev (k + 1) y b) := by
              obtain ⟨ho, h | h⟩ := hfd.out
              · exact ⟨ho, .inl h⟩
              · refine ⟨ho, .inr ⟨h.1, h.2.1, fun j z hj hz => ?_⟩⟩
                by_cases hjk : j = k
                · subst hjk; rw [hx] at hz; cases hz; exact hde
                · exact h.2.2 j z (by omega) hz
            clear hrg hx hde hGr hkl hfd
            go_wp2_with fail
            go_roundw
            case rel => exact ⟨k + 1, y, b, by omega, rfl, by go_num, hY, hbr, hnx⟩
            case measure => simp [intOf]; omega
        · obtain rfl : k = n := by omega
          have hvp : Hid (Go.Dr.verP (Go.Dr.rootD l) y (!b) (Go.Dr.pathD l dev) = true) := by
            obtain ⟨ho, h | h⟩ := hfd.out
            · exact Go.Dr.proves hin (.inl ⟨h.2, h.1⟩)
            · exact Go.Dr.proves hin (.inr ⟨Go.Dr.ofL_none (fun j z hz => h.2.2 j z (by have := (List.getElem?_eq_some_iff.1 hz).1; omega) hz), h.2.1, h.1⟩)
          have hyo := Lib.hid hfd.out.1
          obtain ⟨D0, hD0⟩ : ∃ D, Hid (Go.Dr.rootD l = D) := ⟨_, rfl⟩
          have hDd : Hid (Dig D0) := by rw [← hD0.out]; exact ⟨Go.Dr.nodeD_length l 9 1, Go.Dr.nodeD_lt l 9 1⟩
          have hbw : Hid (Below w.heap.size w wr) := hb3'.out.trans (hbr.out.mono (by have := hb3'.out.size; have := hxb.out; omega))
          have hbx : Below w3.heap.size w3 wr := by rw [hxb.out]; exact hbr.out
          have hSr := Lib.hid (hS3.out.below hbx)
          have hGr := Lib.hid (hG3.out.below hbx)
          have hdg := Lib.hid (fun W hT hG => digestL_any (fun _ => True) a k c l W hT hG)
          have hv1 := Lib.hid (fun W hT hS => verify_any D0 hDd.out y hyo.out (!b) (Go.Dr.pathD l dev) pa 9 pc W hT hS)
          rw [hD0.out] at hdg hvp
          rw [hvp.out] at hv1
          have hY' := hY.out
          have hyl := hY'.lt
          clear hfd hbr hbx hvp hD0 hyo hG3 hS3 hb3' hin
          go_upto_region 15 with fail
          refine wp_region_held_drew (S := fun wz => Below wr.heap.size wr wz) (by kernel_rfl) ((Below.refl _ wr).drew) (fun hHeld => ?_)
          generalize hW0 : wr.drew = W0 at *
          clear hW0
          refine wpAnyH_take (i := 0) (oi := { dst := some 66, op := Op.move (Operand.tmp 5), type := 24, pos := "law.go:111", after := #[], guard := none }) (v := ?_) rfl (by kernel_rfl) (by kernel_rfl) (by kernel_rfl) (fun _ _ _ h => h) (Or.inl ⟨by rfl, ?_⟩) hHeld ?_
          rotate_left
          · intro wz hSw
            go_simp
            all_goals (with_reducible rfl)
          try simp only [Act.put, List.setIfInBounds_toArray, List.set_cons_zero, List.set_cons_succ]
          refine wpAnyH_take (i := 1) (oi := { dst := some 67, op := Op.call { callee := Callee.builtin Builtin.len, args := #[Operand.tmp 66], argTypes := #[24] }, type := 3, pos := "law.go:111", after := #[{ on := 0, ground := Ground.data }], guard := none }) (v := ?_) rfl (by kernel_rfl) (by kernel_rfl) (by kernel_rfl) (fun _ _ _ h => h) (Or.inl ⟨by rfl, ?_⟩) hHeld ?_
          rotate_left
          · intro wz hSw
            go_simp
            all_goals (with_reducible rfl)
          try simp only [Act.put, List.setIfInBounds_toArray, List.set_cons_zero, List.set_cons_succ]
          refine wpAnyH_take (i := 2) (oi := { dst := some 68, op := Op.move (Operand.tmp 7), type := 28, pos := "law.go:111", after := #[], guard := none }) (v := ?_) rfl (by kernel_rfl) (by kernel_rfl) (by kernel_rfl) (fun _ _ _ h => h) (Or.inl ⟨by rfl, ?_⟩) hHeld ?_
          rotate_left
          · intro wz hSw
            go_simp
            all_goals (with_reducible rfl)
          try simp only [Act.put, List.setIfInBounds_toArray, List.set_cons_zero, List.set_cons_succ]
          refine wpAnyH_take (i := 3) (oi := { dst := some 69, op := Op.call { callee := Callee.builtin Builtin.len, args := #[Operand.tmp 68], argTypes := #[28] }, type := 3, pos := "law.go:111", after := #[{ on := 2, ground := Ground.data }], guard := none }) (v := ?_) rfl (by kernel_rfl) (by kernel_rfl) (by kernel_rfl) (fun _ _ _ h => h) (Or.inl ⟨by rfl, ?_⟩) hHeld ?_
          rotate_left
          · intro wz hSw
            go_simp
            all_goals (with_reducible rfl)
          try simp only [Act.put, List.setIfInBounds_toArray, List.set_cons_zero, List.set_cons_succ]
          refine wpAnyH_take (i := 4) (oi := { dst := some 70, op := Op.binOp BinOp.eql 3 (Operand.tmp 67) (Operand.tmp 69) 3, type := 4, pos := "law.go:111", after := #[{ on := 1, ground := Ground.data }, { on := 3, ground := Ground.data }], guard := none }) (v := ?_) rfl (by kernel_rfl) (by kernel_rfl) (by kernel_rfl) (fun _ _ _ h => h) (Or.inl ⟨by rfl, ?_⟩) hHeld ?_
          rotate_left
          · intro wz hSw
            go_simp
            all_goals (with_reducible rfl)
          try simp only [Act.put, List.setIfInBounds_toArray, List.set_cons_zero, List.set_cons_succ]
          refine wpAnyH_take (i := 5) (oi := { dst := some 71, op := Op.move (Operand.tmp 70), type := 4, pos := "law.go:111", after := #[{ on := 4, ground := Ground.data }], guard := none }) (v := ?_) rfl (by kernel_rfl) (by kernel_rfl) (by kernel_rfl) (fun _ _ _ h => h) (Or.inl ⟨by rfl, ?_⟩) hHeld ?_
          rotate_left
          · intro wz hSw
            go_simp
            all_goals (with_reducible rfl)
          try simp only [Act.put, List.setIfInBounds_toArray, List.set_cons_zero, List.set_cons_succ]
          refine wpAnyH_take (i := 6) (oi := { dst := some 72, op := Op.move (Operand.tmp 0), type := 22, pos := "law.go:111", after := #[{ on := 5, ground := Ground.guard }], guard := some (5, true) }) (v := ?_) rfl (by kernel_rfl) (by kernel_rfl) (by kernel_rfl) (fun _ _ _ h => h) (Or.inl ⟨by rfl, ?_⟩) hHeld ?_
          rotate_left
          · intro wz hSw
            go_simp
            all_goals (with_reducible rfl)
          try simp only [Act.put, List.setIfInBounds_toArray, List.set_cons_zero, List.set_cons_succ]
          refine wpAnyH_take (i := 8) (oi := { dst := some 74, op := Op.load 32 (Operand.tmp 9), type := 32, pos := "law.go:111", after := #[{ on := 5, ground := Ground.guard }], guard := some (5, true) }) (v := ?_) rfl (by kernel_rfl) (by kernel_rfl) (by kernel_rfl) (fun _ _ _ h => h) (Or.inl ⟨by rfl, ?_⟩) hHeld ?_
          rotate_left
          · intro wz hSw
            have q0 := (hY'.below hSw hyl).at_ (i := 0) (x := .int .i64 y.dev) rfl
            have q1 := (hY'.below hSw hyl).at_ (i := 1) (x := .int .i64 y.ver) rfl
            have q2 := (hY'.below hSw hyl).at_ (i := 2) (x := .int .i64 y.leaf) rfl
            have q3 := (hY'.below hSw hyl).at_ (i := 3) (x := .int .i64 y.vers) rfl
            have q4 := (hY'.below hSw hyl).at_ (i := 4) (x := .bool y.gone) rfl
            go_simp
            all_goals (with_reducible rfl)
          try simp only [Act.put, List.setIfInBounds_toArray, List.set_cons_zero, List.set_cons_succ]
          refine wpAnyH_take (i := 9) (oi := { dst := some 75, op := Op.move (Operand.tmp 10), type := 4, pos := "law.go:111", after := #[{ on := 5, ground := Ground.guard }], guard := some (5, true) }) (v := ?_) rfl (by kernel_rfl) (by kernel_rfl) (by kernel_rfl) (fun _ _ _ h => h) (Or.inl ⟨by rfl, ?_⟩) hHeld ?_
          rotate_left
          · intro wz hSw
            go_simp
            all_goals (with_reducible rfl)
          try simp only [Act.put, List.setIfInBounds_toArray, List.set_cons_zero, List.set_cons_succ]
          refine wpAnyH_take (i := 10) (oi := { dst := some 76, op := Op.unOp UnOp.not 4 (Operand.tmp 75), type := 4, pos := "law.go:111", after := #[{ on := 9, ground := Ground.data }, { on := 5, ground := Ground.guard }], guard := some (5, true) }) (v := ?_) rfl (by kernel_rfl) (by kernel_rfl) (by kernel_rfl) (fun _ _ _ h => h) (Or.inl ⟨by rfl, ?_⟩) hHeld ?_
          rotate_left
          · intro wz hSw
            go_simp
            all_goals (with_reducible rfl)
          try simp only [Act.put, List.setIfInBounds_toArray, List.set_cons_zero, List.set_cons_succ]
          refine wpAnyH_take (i := 11) (oi := { dst := some 77, op := Op.move (Operand.tmp 5), type := 24, pos := "law.go:111", after := #[{ on := 5, ground := Ground.guard }], guard := some (5, true) }) (v := ?_) rfl (by kernel_rfl) (by kernel_rfl) (by kernel_rfl) (fun _ _ _ h => h) (Or.inl ⟨by rfl, ?_⟩) hHeld ?_
          rotate_left
          · intro wz hSw
            go_simp
            all_goals (with_reducible rfl)
          try simp only [Act.put, List.setIfInBounds_toArray, List.set_cons_zero, List.set_cons_succ]
          refine wpAnyH_ready (rs := [7]) (by kernel_rfl) (by simp) ?_
          refine AllReadyH.cons (o := { dst := some 73, op := Op.call { callee := Callee.value (Operand.func 11), args := #[Operand.tmp 72], argTypes := #[22] }, type := 35, pos := "law.go:111", after := #[{ on := 6, ground := Ground.data }, { on := 5, ground := Ground.chain }, { on := 5, ground := Ground.guard }], guard := some (5, true) }) rfl (fun K hK => ?_) AllReadyH.nil
          rw [if_pos (by rfl)]
          show Oper.wp _ _ _ _ K _
          go_simp
          go_at_call 11
          refine (hdg.out _ (HT'.out.below (hbw.out.trans (hHeld.mono hbw.out.size))) (hGr.out.below hHeld)).mono ?_
          rintro e W1 ⟨rfl, hst⟩
          refine hK.out _ _ (hHeld.trans (hst.mono hHeld.size)) (fun hHeld2 => ?_)
          clear hHeld hst
          have hHeld := hHeld2
          clear hHeld2
          clear hK K
          try simp only [Act.put, List.setIfInBounds_toArray, List.set_cons_zero, List.set_cons_succ]
          refine wpAnyH_ready (rs := [12]) (by kernel_rfl) (by simp) ?_
          refine AllReadyH.cons (o := { dst := some 78, op := Op.call { callee := Callee.value (Operand.func 10), args := #[Operand.tmp 73, Operand.tmp 74, Operand.tmp 76, Operand.tmp 77], argTypes := #[35, 32, 4, 24] }, type := 4, pos := "law.go:111", after := #[{ on := 7, ground := Ground.data }, { on := 8, ground := Ground.data }, { on := 10, ground := Ground.data }, { on := 11, ground := Ground.data }, { on := 7, ground := Ground.chain }, { on := 5, ground := Ground.guard }], guard := some (5, true) }) rfl (fun K hK => ?_) AllReadyH.nil
          rw [if_pos (by rfl)]
          show Oper.wp _ _ _ _ K _
          go_simp
          go_at_call 10
          refine (hv1.out _ (HT'.out.below (hbw.out.trans (hHeld.mono hbw.out.size))) (hSr.out.below hHeld)).mono ?_
          rintro e W2 ⟨rfl, hst⟩
          refine hK.out _ _ (hHeld.trans (hst.mono hHeld.size)) (fun hHeld2 => ?_)
          clear hHeld hst
          have hHeld := hHeld2
          clear hHeld2
          clear hK K
          try simp only [Act.put, List.setIfInBounds_toArray, List.set_cons_zero, List.set_cons_succ]
          refine wpAnyH_take (i := 13) (oi := { dst := some 79, op := Op.pick (Operand.tmp 71) (Operand.tmp 78) (Operand.const (Value.bool false)), type := 4, pos := "law.go:111", after := #[{ on := 5, ground := Ground.data }, { on := 12, ground := Ground.data }], guard := none }) (v := ?_) rfl (by kernel_rfl) (by kernel_rfl) (by kernel_rfl) (fun _ _ _ h => h) (Or.inl ⟨by rfl, ?_⟩) hHeld ?_
          rotate_left
          · intro wz hSw
            go_simp
            all_goals (with_reducible rfl)
          try simp only [Act.put, List.setIfInBounds_toArray, List.set_cons_zero, List.set_cons_succ]
          refine wpAnyH_take (i := 14) (oi := { dst := some 4, op := Op.assign (Operand.tmp 79), type := 4, pos := "law.go:111", after := #[{ on := 13, ground := Ground.data }, { on := 12, ground := Ground.chain }, { on := 0, ground := Ground.phase }, { on := 1, ground := Ground.phase }, { on := 2, ground := Ground.phase }, { on := 3, ground := Ground.phase }, { on := 4, ground := Ground.phase }, { on := 5, ground := Ground.phase }, { on := 6, ground := Ground.phase }, { on := 7, ground := Ground.phase }, { on := 8, ground := Ground.phase }, { on := 9, ground := Ground.phase }, { on := 10, ground := Ground.phase }, { on := 11, ground := Ground.phase }, { on := 12, ground := Ground.phase }, { on := 13, ground := Ground.phase }], guard := none }) (v := ?_) rfl (by kernel_rfl) (by kernel_rfl) (by kernel_rfl) (fun _ _ _ h => h) (Or.inl ⟨by rfl, ?_⟩) hHeld ?_
          rotate_left
          · intro wz hSw
            go_simp
            all_goals (with_reducible rfl)
          try simp only [Act.put, List.setIfInBounds_toArray, List.set_cons_zero, List.set_cons_succ]
          refine wpAnyH_done (by kernel_rfl) ?_ _
          have hend := hfin.out _ (hbw.out.trans (hHeld.mono hbw.out.size))
          go_wp2_with fail
          exact hend
    · refine (prove_no hd'.out hin hT1.out hG1.out).mono ?_
      rintro e w2 ⟨rfl, hb2⟩
      have hb2' := Lib.hid (hb1'.out.trans (hb2.mono hb1'.out.size))
      clear hb2 hb1'
      go_wp2_with fail
      refine (copath_any dev hd'.out w2).mono ?_
      rintro e w3 (⟨h1, h2, _⟩ | ⟨_, rfl, hb3⟩)
      · exact absurd ⟨h1, h2⟩ hin
      have hend := Lib.hid (hfin.out _ (hb2'.out.trans (hb3.mono hb2'.out.size)))
      clear hin hfin
      go_wp2_with fail
      exact hend.out
  · have hn' : decide ((20 : Int) < (n : Int)) = true := by simp; omega
    have hend := Lib.hid (hfin.out _ hb1'.out)
    clear hfin hn
    go_wp2_with fail
    exact hend.out
end Go.Proofs.YtjmggmicnkfacaaDoor
namespace Go.Proofs.YtjmggmicnkfacaaDoor.lawProves
open Go.ChangeShapes Go.WideShapes Go.ChangeAt Go.RowKit Go.Mem
open Go.Proofs.YtjmggmicnkfacaaDoor

set_option maxRecDepth 100000 in
theorem lifted (os : Os) (started : os.Started) (H : Type) (enc : TypeId × Value → H) :
    ReturnsInHanded {} Tryd.checked os 3 .any (fun w args => (Rows.directoryProvesSpec.pre enc Tryd.prog Tryd.f3 [] false w args ∧ laidMetH Tryd.prog laid2 w) ∧ sizedMet enc Tryd.prog Tryd.f3 (OpenSpec.ofChange Rows.directoryProvesSpec) false w args)
      (Rows.directoryProvesSpec.post enc Tryd.prog Tryd.f3 false true false false) := by
  refine returnsInHanded_of_change_and (C := Tryd.checked) (X := fun w _ => laidMetH Tryd.prog laid2 w) (fun _ _ _ hh h => h.of_heap hh) own started (by kernel_rfl) Tryd.func3
    (ChangeSpec.witness_shaped (enc := enc) (C := Tryd.checked) (os := os) (X := fun w _ => laidMetH Tryd.prog laid2 w) false (World.doorLaid Tryd.prog 400 os) #[.slice none 0 0, .int .i64 0] 8 rfl (World.shaped_of_RefB (by kernel_rfl) (by kernel_rfl)) (by kernel_rfl) (by kernel_rfl) (by kernel_rfl) (door_met os _)) ?_
  intro W base args ds gs before hval0 hW _ hwt hL _
  have hval : ∀ (j : Nat) t v, Tryd.f3.params[j]? = some t → args[j]? = some v → Value.okWide Tryd.prog W .any base t v := hval0
  have hW' := hW
  obtain ⟨p, q, hA0, hV, rfl, hfz, hnd⟩ := hW
  have hA : DataW.TrodAll enc Tryd.prog W 0 (fun _ => true) true Tryd.f3.params.toList args.toList ds p := hA0
  rw [Tryd.params3] at hA hval
  obtain ⟨v0, vs0, d0, ds0, p0, q0, hargs, rfl, rfl, h0, r0⟩ := trodAll_cons hA
  obtain ⟨v1, vs1, d1, ds1, p1, q1, rfl, rfl, rfl, h1, r1⟩ := trodAll_cons r0
  obtain ⟨rfl, rfl, rfl⟩ := trodAll_nil r1
  obtain rfl : args = #[v0, v1] := by cases args; simp_all
  obtain ⟨rfl, rfl⟩ := trodVars_none hV
  have lt0 : ∀ x ∈ p0, x.block < W.heap.size := by obtain ⟨m, hm⟩ := h0; exact DataW.trod_lt m _ _ _ hm
  have lt1 : ∀ x ∈ p1, x.block < W.heap.size := by obtain ⟨m, hm⟩ := h1; exact DataW.trod_lt m _ _ _ hm
  have k0' := h0
  have k1' := h1
  obtain ⟨a0, n0, c0, rfl⟩ := okWide_slice Tryd.underlying22 (hval 0 22 v0 rfl rfl)
  obtain ⟨m0, hm0⟩ := h0
  obtain ⟨_, _, _, l0, e0, S0⟩ := open_lss (cs := [.slice a0 n0 c0]) (by simpa [Value.cells] using hm0)
  simp only [List.cons.injEq, Value.slice.injEq, and_true] at e0
  obtain ⟨rfl, rfl, rfl⟩ := e0
  clear hm0
  obtain ⟨x1, rfl⟩ := okWide_int Tryd.underlying3 (hval 1 3 v1 rfl rfl)
  obtain ⟨m1, hm1⟩ := h1
  obtain ⟨x1', e1, i1⟩ := open_int1 (cs := [.int .i64 x1]) (by simpa [Value.cells] using hm1)
  obtain rfl : x1 = x1' := by simpa using e1
  clear hm1 e1
  have hT := tabs_of_laid hL
  clear hA0 hval0
  refine (proves_walk a0 n0 c0 l0 x1 i1 W hT S0).mono fun e W' ⟨he, bel⟩ => ?_
  subst he
  exact ⟨_, rfl, _, _, _, [], _, [], hW', trodAll_mk1 (shut_bool Tryd.underlying4 _),
    (trodAll_cons_mk (Below.trod laidOut (by kernel_rfl) (of_decide_eq_true (by kernel_rfl)) k0' bel lt0) (trodAll_cons_mk (Below.trod laidOut (by kernel_rfl) (of_decide_eq_true (by kernel_rfl)) k1' bel lt1) trodAll_mk0)), rfl, bel.frame _, fun h => by cases h⟩

theorem over : Rows.DirectoryProvesSaid :=
  OpenClaim.holds_of_wide 3 Tryd.f3 rfl rfl rfl rfl rfl rfl rfl ⟨rfl, rfl, rfl, rfl, rfl⟩ rfl rfl rfl rfl rfl (by kernel_rfl) Tryd.func3 (by kernel_rfl)
    (of_decide_eq_true (by kernel_rfl)) (by unfold Func.isWrapper; first | (rw [if_pos (by decide +kernel)]; kernel_rfl) | (rw [if_neg (by decide +kernel)]; exact ⟨rfl, rfl⟩))
    (fun os started H enc _ => lifted os started H enc)

theorem proved : Rows.DirectoryProvesCardSaid :=
  Claim7.holds_tied_plain_at .later [] [.data, .data, .sentinel] true (true, "1557d4907a95d2214c9597103dd117e953a091d85ddce6dd943560b7cea1b4cb") false
    over (fun _ h => by cases h) (by kernel_rfl) (fun _ h => by cases h) directoryProves_row_tie rfl ⟨rfl, rfl⟩ (by kernel_rfl) rfl
    (fun f fn hf hfn => by
      obtain rfl : f = 3 := Option.some.inj ((show Tryd.prog.funcNamed "chartroom/chartroomlaw35.DirectoryProves" = some 3 by kernel_rfl).symm.trans hf) |>.symm
      obtain rfl : fn = Tryd.f3 := (Option.some.inj (Tryd.func3.symm.trans hfn)).symm
      exact ⟨by kernel_rfl, fun j t ht => by
        rw [Tryd.params3] at ht
        have hm : t ∈ [22, 3] := by simpa using Array.mem_of_getElem? ht
        have hall : ([22, 3].all fun u => !Tryd.prog.wantsStandIn u) = true := by kernel_rfl
        exact (show Tryd.prog.wantsStandIn t = false by simpa using List.all_eq_true.1 hall t hm)⟩)
    (by kernel_rfl)
#print axioms proved
end Go.Proofs.YtjmggmicnkfacaaDoor.lawProves

