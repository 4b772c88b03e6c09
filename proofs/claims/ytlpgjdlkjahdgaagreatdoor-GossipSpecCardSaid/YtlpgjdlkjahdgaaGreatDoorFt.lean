/- the reference 36: Check -/
import Derived.Test.YtlpgjdlkjahdgaaGreatDoorAl
import Derived.Test.YtlpgjdlkjahdgaaGreatDoorFo
import Derived.Test.YtlpgjdlkjahdgaaGreatDoorGa
namespace Go.Proofs.YtlpgjdlkjahdgaaGreatDoor
open Go.RowKit Go.Mem
open Go.Dr (Lst Rt Dir Wt)

set_option maxRecDepth 20000 in
set_option maxHeartbeats 40000000 in
theorem r36check_any (K : Nat → Prop) (V : Wt) (a : Option Addr) (n c : Nat) (w : World) (H : WM K w V a n c) :
 Calls Tryz.prog 44 #[.agg (wtC V.pub a n c).toArray] w (RetI (chkW 4 V) w) := by
 have H' := Lib.hid H
 have n63 := H.n63
 have hlen := H.len
 clear H
 obtain ⟨tb, htb⟩ : ∃ tb, Hid (w.heap.size = tb) := ⟨_, rfl⟩
 obtain ⟨W0, hW0⟩ : ∃ W, Hid (w.alloc (.cells (wtC V.pub a n c).toArray 69) = W) := ⟨_, rfl⟩
 have hB : Hid (Blk W0 tb 69 (wtC V.pub a n c)) := by rw [← hW0.out, ← htb.out]; exact Blk.new w _ (wtC V.pub a n c)
 have hb : Hid (Below w.heap.size w W0) := by rw [← hW0.out]; exact (Below.refl _ w).alloc (Nat.le_refl _) _
 obtain ⟨X, hX⟩ : ∃ X, X = RetI (chkW 4 V) w := ⟨_, rfl⟩
 have hf1 : Hid (∀ W, Below W0.heap.size W0 W → Go.Dr.wchk 4 V = true → X (.returned (.int .i64 0)) W) := fun W h1 h2 => by rw [hX]; exact ⟨by unfold chkW; rw [if_pos h2], hb.out.trans (h1.mono hb.out.size)⟩
 have hf2 : Hid (∀ W, Below W0.heap.size W0 W → Go.Dr.wchk 4 V = false → X (.returned (.int .i64 360)) W) := fun W h1 h2 => by rw [hX]; exact ⟨by unfold chkW; rw [if_neg (by rw [h2]; simp)], hb.out.trans (h1.mono hb.out.size)⟩
 rw [← hX]
 clear hX
 obtain ⟨Z, hZ⟩ : ∃ Z, Hid (Go.Dr.wchk 4 V = Z) := ⟨_, rfl⟩
 rw [hZ.out] at hf1 hf2
 have hgo : Hid (Go.Dr.wchkGo 4 V.pub none V.rs = Z) := hZ.out
 have hpc : Hid (∀ wz, Below W0.heap.size W0 wz → wz.cell? ⟨tb, 0, none⟩ = some (.int .i64 V.pub)) := fun wz h => (hB.out.below h hB.out.lt).at_ (i := 0) rfl
 have hsc : Hid (∀ wz, Below W0.heap.size W0 wz → wz.cell? ⟨tb, 1, none⟩ = some (.slice a n c)) := fun wz h => (hB.out.below h hB.out.lt).at_ (i := 1) rfl
 have hQ : Hid (QS K W0 a n c V.rs) := H'.out.qs.below hb.out
 clear hB hb H' hZ
 go_enter Tryz.func44, Tryz.ntmps44
 go_wp2_with (first
  | (rw [hW0.out, htb.out])
   | (rw [hW0.out]))
 go_loopw [3] (fun i wr => ∃ (k : Nat) (p : Option Rt), k ≤ n ∧ i = .int .i64 (k : Int) ∧ Hid (Below W0.heap.size W0 wr) ∧ Hid (Go.Dr.wchkGo 4 V.pub p (V.rs.drop k) = Z) ∧ Hid ((k = 0 ∧ p = none) ∨ ∃ q, 0 < k ∧ V.rs[k - 1]? = some q ∧ p = some q)) (fun i _ => n - (intOf i).toNat)
 case atStart => exact ⟨0, none, Nat.zero_le _, rfl, Below.refl _ _, hgo.out, .inl ⟨rfl, rfl⟩⟩
 case round =>
  obtain ⟨k, p, hk, rfl, hbr, hf, hpv⟩ := hrel
  clear hgo
  have sc1 := hsc.out wr hbr.out
  by_cases hlt : k < n
  · have hkl : k < V.rs.length := by omega
    have hkx := List.getElem?_eq_getElem hkl
    obtain ⟨b, off, rfl, hbl, _, hox0, hrg0⟩ := QS.cells hQ.out hkx
    have hf' := hf.out
    rw [List.drop_eq_getElem_cons hkl, Go.Dr.wchkGo] at hf'
    obtain ⟨x, hx⟩ : ∃ x, V.rs[k] = x := ⟨_, rfl⟩
    rw [hx] at hf' hox0 hrg0 hkx
    have hox := Lib.hid hox0
    have hrg : Hid (∀ wz, Below W0.heap.size W0 wz → wz.rangeAt b (off + k * 67) (rC x)) := fun wz hb j u hu => (hb.cell (p := ⟨b, off + k * 67 + j, none⟩) hbl).trans (hrg0 j u hu)
    have hxn : Hid (∀ wz, Below W0.heap.size W0 wz → wz.cell? ⟨b, off + k * 67, none⟩ = some (.int .i64 x.no)) := fun wz hb => by
     have := hrg.out wz hb 0 (.int .i64 x.no) rfl
     rwa [Nat.add_zero] at this
    have hi : Hid ((Tryz.prog.info? 62).map (·.size) = some (rC x).length) := by show _ = _; rw [rC_length hox.out]; exact sizeR
    have hpr := Lib.hid (fun W => r36proper_any x hox.out V.pub W)
    have hkx' := Lib.hid hkx
    have k0 : (0 : Int) ≤ (k : Int) := by omega
    have k1 : (k : Int) < (n : Int) := by omega
    obtain ⟨rx, hrx⟩ : ∃ r, Hid (rC x = r) := ⟨_, rfl⟩
    rw [hrx.out] at hrg hi hpr
    obtain ⟨P, hP⟩ : ∃ P, Hid (Go.Dr.properB 4 V.pub x = P) := ⟨_, rfl⟩
    have hn1 : Hid (P = true → 1 ≤ x.no) := fun h => (Go.Dr.proper_no (b := 4) (pub := V.pub) (by rw [hP.out]; exact h)).1
    rw [hP.out] at hf' hpr
    clear hkx hrg0 hx hf hox0 hP hkl
    go_wp2_with fail
    refine wp_region_held_drew (S := fun wz => Below W0.heap.size W0 wz) (by kernel_rfl) (hbr.out.drew) (fun hHeld => ?_)
    generalize wr.drew = W1 at *
    refine tQ 0 rfl hHeld ?_
    refine tX 1 rfl (fun wz hSw => hpc.out wz hSw) hHeld ?_
    refine tQ 2 rfl hHeld ?_
    refine tX 3 rfl (fun wz hSw => hsc.out wz hSw) hHeld ?_
    refine tQ 4 rfl hHeld ?_
    refine tQ 5 rfl hHeld ?_
    refine tY 6 rfl b (off + k * 67) (rx) (fun wz h => hrg.out wz h) Tryz.underlying62 hi.out hHeld ?_
    refine tO 7 rfl (fun K hK => ?_)
    go_simp
    go_at_call 86
    refine (hpr.out W1).mono ?_
    rintro e W2 ⟨rfl, hb1⟩
    refine hK.out _ _ (hHeld.trans (hb1.mono hHeld.size)) (fun hHeld2 => ?_)
    clear hb1
    clear hHeld
    have hHeld := hHeld2
    clear hHeld2
    clear hK K
    try simp only [Act.put, sA, s0, s1]
    refine tQ 8 rfl hHeld ?_
    refine tQ 9 rfl hHeld ?_
    cases P with
    | false =>
     have hz : Z = false := by rw [← hf']; rfl
     subst hz
     clear hf' hn1
     simp only [Bool.not_false]
     refine tG 10 (v := undef) rfl (Or.inr ⟨by kernel_rfl, rfl⟩) hHeld ?_
     refine tG 11 (v := undef) rfl (Or.inr ⟨by kernel_rfl, rfl⟩) hHeld ?_
     refine tG 12 (v := undef) rfl (Or.inr ⟨by kernel_rfl, rfl⟩) hHeld ?_
     refine tG 13 (v := undef) rfl (Or.inr ⟨by kernel_rfl, rfl⟩) hHeld ?_
     refine tG 14 (v := undef) rfl (Or.inr ⟨by kernel_rfl, rfl⟩) hHeld ?_
     refine tG 15 (v := undef) rfl (Or.inr ⟨by kernel_rfl, rfl⟩) hHeld ?_
     refine tG 16 (v := undef) rfl (Or.inr ⟨by kernel_rfl, rfl⟩) hHeld ?_
     refine tG 17 (v := undef) rfl (Or.inr ⟨by kernel_rfl, rfl⟩) hHeld ?_
     refine tG 18 (v := undef) rfl (Or.inr ⟨by kernel_rfl, rfl⟩) hHeld ?_
     refine tG 19 (v := undef) rfl (Or.inr ⟨by kernel_rfl, rfl⟩) hHeld ?_
     refine tG 20 (v := undef) rfl (Or.inr ⟨by kernel_rfl, rfl⟩) hHeld ?_
     refine tG 21 (v := undef) rfl (Or.inr ⟨by kernel_rfl, rfl⟩) hHeld ?_
     refine tG 22 (v := undef) rfl (Or.inr ⟨by kernel_rfl, rfl⟩) hHeld ?_
     refine tG 23 (v := undef) rfl (Or.inr ⟨by kernel_rfl, rfl⟩) hHeld ?_
     refine tG 24 (v := undef) rfl (Or.inr ⟨by kernel_rfl, rfl⟩) hHeld ?_
     refine tG 25 (v := undef) rfl (Or.inr ⟨by kernel_rfl, rfl⟩) hHeld ?_
     refine tG 26 (v := undef) rfl (Or.inr ⟨by kernel_rfl, rfl⟩) hHeld ?_
     refine tG 27 (v := undef) rfl (Or.inr ⟨by kernel_rfl, rfl⟩) hHeld ?_
     refine tG 28 (v := undef) rfl (Or.inr ⟨by kernel_rfl, rfl⟩) hHeld ?_
     refine tG 29 (v := undef) rfl (Or.inr ⟨by kernel_rfl, rfl⟩) hHeld ?_
     refine tG 30 (v := undef) rfl (Or.inr ⟨by kernel_rfl, rfl⟩) hHeld ?_
     refine tG 31 (v := undef) rfl (Or.inr ⟨by kernel_rfl, rfl⟩) hHeld ?_
     refine tG 32 (v := undef) rfl (Or.inr ⟨by kernel_rfl, rfl⟩) hHeld ?_
     refine tG 33 (v := undef) rfl (Or.inr ⟨by kernel_rfl, rfl⟩) hHeld ?_
     refine tG 34 (v := undef) rfl (Or.inr ⟨by kernel_rfl, rfl⟩) hHeld ?_
     refine tG 35 (v := undef) rfl (Or.inr ⟨by kernel_rfl, rfl⟩) hHeld ?_
     refine tG 36 (v := undef) rfl (Or.inr ⟨by kernel_rfl, rfl⟩) hHeld ?_
     refine tG 37 (v := undef) rfl (Or.inr ⟨by kernel_rfl, rfl⟩) hHeld ?_
     refine tG 38 (v := undef) rfl (Or.inr ⟨by kernel_rfl, rfl⟩) hHeld ?_
     refine rd (rs := [39]) ?_
     refine AllReadyH.cons (o := ⟨some 50, .call { callee := .value (.func 87), args := #[.tmp 44, .tmp 49], argTypes := #[62, 62] }, 4, "ref.go:28", #[⟨33, .data⟩, ⟨38, .data⟩, ⟨27, .chain⟩, ⟨27, .guard⟩], some (27, false)⟩) rfl (fun K hK => ?_) AllReadyH.nil
     rw [if_neg (Bool.eq_false_iff.1 (by kernel_rfl))]
     refine hK.out _ _ hHeld (fun hHeld => ?_)
     clear hK K
     try simp only [Act.put, sA, s0, s1]
     refine tG 40 (v := undef) rfl (Or.inr ⟨by kernel_rfl, rfl⟩) hHeld ?_
     refine tG 41 (v := undef) rfl (Or.inr ⟨by kernel_rfl, rfl⟩) hHeld ?_
     refine tQ 42 rfl hHeld ?_
     refine wpAnyH_done (by kernel_rfl) ?_ _
     have hend := Lib.hid (hf2.out W2 hHeld (by trivial))
     clear hHeld
     go_wp2_with fail
     exact hend.out
    | true =>
     simp only [Bool.not_true]
     rw [Bool.true_and] at hf'
     have hn2 := hn1.out rfl
     by_cases hk0 : k = 0
     · have kpos : decide ((0 : Int) < (k : Int)) = false := decide_eq_false (by omega)
       have kpos2 : decide (0 < k) = false := decide_eq_false (by omega)
       have hp1 : p = none := by rcases hpv.out with h | ⟨q, h, _⟩; exact h.2; omega
       subst hp1
       rw [show Go.Dr.stepOk none x = true from rfl, Bool.true_and] at hf'
       have hf2' := Lib.hid hf'
       have hnx : Hid ((k + 1 = 0 ∧ some x = none) ∨ ∃ q : Rt, 0 < k + 1 ∧ V.rs[k + 1 - 1]? = some q ∧ some x = some q) := .inr ⟨x, by omega, by rw [Nat.add_sub_cancel]; exact hkx'.out, rfl⟩
       clear hf' hn1 hn2 hk0
       refine tQ 10 rfl hHeld ?_
       refine tQ 11 rfl hHeld ?_
       refine tQ 12 rfl hHeld ?_
       refine tG 13 (v := undef) rfl (Or.inr ⟨by kernel_rfl, rfl⟩) hHeld ?_
       refine tG 14 (v := undef) rfl (Or.inr ⟨by kernel_rfl, rfl⟩) hHeld ?_
       refine tG 15 (v := undef) rfl (Or.inr ⟨by kernel_rfl, rfl⟩) hHeld ?_
       refine tG 16 (v := undef) rfl (Or.inr ⟨by kernel_rfl, rfl⟩) hHeld ?_
       refine tG 17 (v := undef) rfl (Or.inr ⟨by kernel_rfl, rfl⟩) hHeld ?_
       refine tG 18 (v := undef) rfl (Or.inr ⟨by kernel_rfl, rfl⟩) hHeld ?_
       refine tG 19 (v := undef) rfl (Or.inr ⟨by kernel_rfl, rfl⟩) hHeld ?_
       refine tG 20 (v := undef) rfl (Or.inr ⟨by kernel_rfl, rfl⟩) hHeld ?_
       refine tG 21 (v := undef) rfl (Or.inr ⟨by kernel_rfl, rfl⟩) hHeld ?_
       refine tG 22 (v := undef) rfl (Or.inr ⟨by kernel_rfl, rfl⟩) hHeld ?_
       refine tG 23 (v := undef) rfl (Or.inr ⟨by kernel_rfl, rfl⟩) hHeld ?_
       refine tG 24 (v := undef) rfl (Or.inr ⟨by kernel_rfl, rfl⟩) hHeld ?_
       refine tG 25 (v := undef) rfl (Or.inr ⟨by kernel_rfl, rfl⟩) hHeld ?_
       refine tG 26 (v := undef) rfl (Or.inr ⟨by kernel_rfl, rfl⟩) hHeld ?_
       refine tG 27 (v := undef) rfl (Or.inr ⟨by kernel_rfl, rfl⟩) hHeld ?_
       refine tG 28 (v := undef) rfl (Or.inr ⟨by kernel_rfl, rfl⟩) hHeld ?_
       refine tG 29 (v := undef) rfl (Or.inr ⟨by kernel_rfl, rfl⟩) hHeld ?_
       refine tG 30 (v := undef) rfl (Or.inr ⟨by kernel_rfl, rfl⟩) hHeld ?_
       refine tG 31 (v := undef) rfl (Or.inr ⟨by kernel_rfl, rfl⟩) hHeld ?_
       refine tG 32 (v := undef) rfl (Or.inr ⟨by kernel_rfl, rfl⟩) hHeld ?_
       refine tG 33 (v := undef) rfl (Or.inr ⟨by kernel_rfl, rfl⟩) hHeld ?_
       refine tG 34 (v := undef) rfl (Or.inr ⟨by kernel_rfl, rfl⟩) hHeld ?_
       refine tG 35 (v := undef) rfl (Or.inr ⟨by kernel_rfl, rfl⟩) hHeld ?_
       refine tG 36 (v := undef) rfl (Or.inr ⟨by kernel_rfl, rfl⟩) hHeld ?_
       refine tG 37 (v := undef) rfl (Or.inr ⟨by kernel_rfl, rfl⟩) hHeld ?_
       refine tG 38 (v := undef) rfl (Or.inr ⟨by kernel_rfl, rfl⟩) hHeld ?_
       refine rd (rs := [39]) ?_
       refine AllReadyH.cons (o := ⟨some 50, .call { callee := .value (.func 87), args := #[.tmp 44, .tmp 49], argTypes := #[62, 62] }, 4, "ref.go:28", #[⟨33, .data⟩, ⟨38, .data⟩, ⟨27, .chain⟩, ⟨27, .guard⟩], some (27, false)⟩) rfl (fun K hK => ?_) AllReadyH.nil
       rw [if_neg (Bool.eq_false_iff.1 (by kernel_rfl))]
       refine hK.out _ _ hHeld (fun hHeld => ?_)
       clear hK K
       try simp only [Act.put, sA, s0, s1]
       refine tG 40 (v := undef) rfl (Or.inr ⟨by kernel_rfl, rfl⟩) hHeld ?_
       refine tQ 41 rfl hHeld ?_
       refine tQ 42 rfl hHeld ?_
       refine wpAnyH_done (by kernel_rfl) ?_ _
       have hb9 := Lib.hid hHeld
       clear hHeld
       go_wp2_with fail
       go_roundw
       case rel => exact ⟨k + 1, some x, by omega, by go_num, hb9, hf2', hnx⟩
       case measure => simp [intOf]; omega
     · obtain ⟨q, hq0, hq, hqd⟩ : ∃ q : Rt, 0 < k ∧ V.rs[k - 1]? = some q ∧ p = some q := by rcases hpv.out with h | h; exact absurd h.1 hk0; exact h
       obtain ⟨b2, off2, hab, hbl2, _, hoq0, hrq0⟩ := QS.cells hQ.out hq
       cases hab
       subst hqd
       have hoq := Lib.hid hoq0
       obtain ⟨k', hk'⟩ : ∃ k', k - 1 = k' := ⟨_, rfl⟩
       rw [hk'] at hq hrq0
       have hrq : Hid (∀ wz, Below W0.heap.size W0 wz → wz.rangeAt b (off + k' * 67) (rC q)) := fun wz hb j u hu => (hb.cell (p := ⟨b, off + k' * 67 + j, none⟩) hbl).trans (hrq0 j u hu)
       have hqn : Hid (∀ wz, Below W0.heap.size W0 wz → wz.cell? ⟨b, off + k' * 67, none⟩ = some (.int .i64 q.no)) := fun wz hb => by
        have := hrq.out wz hb 0 (.int .i64 q.no) rfl
        rwa [Nat.add_zero] at this
       have hiq : Hid ((Tryz.prog.info? 62).map (·.size) = some (rC q).length) := by show _ = _; rw [rC_length hoq.out]; exact sizeR
       have hct := Lib.hid (fun W => r36contra_any q x hoq.out hox.out hn2 W)
       obtain ⟨rq, hrqe⟩ : ∃ r, Hid (rC q = r) := ⟨_, rfl⟩
       rw [hrqe.out] at hrq hiq hct
       rw [hrx.out] at hct
       obtain ⟨C, hC⟩ : ∃ C, Hid (Go.Dr.contraB q x = C) := ⟨_, rfl⟩
       rw [hC.out] at hct
       have hst : Go.Dr.stepOk (some q) x = (decide (q.no < x.no) && !C) := by rw [← hC.out]; rfl
       rw [hst] at hf'
       have kpos : decide ((0 : Int) < (k : Int)) = true := decide_eq_true (by omega)
       have kpos2 : decide (0 < k) = true := decide_eq_true (by omega)
       have kk : (k : Int) - 1 = (k' : Int) := by omega
       have hk'0 : (0 : Int) ≤ (k' : Int) := by omega
       have hwk : IntKind.i64.wrap (k' : Int) = (k' : Int) := IntWalk.i64_in _ ⟨by omega, by omega⟩
       have hk'2 : (k' : Int) < (n : Int) := by omega
       have hk0' : 0 < k := by omega
       clear hst hC hk0 hq hrq0 hoq0 hn1 hk'
       refine tQ 10 rfl hHeld ?_
       refine tQ 11 rfl hHeld ?_
       refine tQ 12 rfl hHeld ?_
       refine tQ 13 rfl hHeld ?_
       refine tX 14 rfl (fun wz hSw => hsc.out wz hSw) hHeld ?_
       refine tQ 15 rfl hHeld ?_
       refine tQ 16 rfl hHeld ?_
       refine tQ 17 rfl hHeld ?_
       refine tX 18 rfl (fun wz hSw => hxn.out wz hSw) hHeld ?_
       refine tQ 19 rfl hHeld ?_
       refine tX 20 rfl (fun wz hSw => hsc.out wz hSw) hHeld ?_
       refine tQ 21 rfl hHeld ?_
       refine tQ 22 rfl hHeld ?_
       refine tQ 23 rfl hHeld ?_
       refine tQ 24 rfl hHeld ?_
       refine tX 25 rfl (fun wz hSw => hqn.out wz hSw) hHeld ?_
       refine tQ 26 rfl hHeld ?_
       refine tQ 27 rfl hHeld ?_
       by_cases hle : x.no ≤ q.no
       · have hle' : decide (x.no ≤ q.no) = true := by simpa using hle
         rw [decide_eq_false (by omega), Bool.false_and, Bool.false_and] at hf'
         subst hf'
         clear hle
         simp only [hle']
         refine tG 28 (v := undef) rfl (Or.inr ⟨by kernel_rfl, rfl⟩) hHeld ?_
         refine tG 29 (v := undef) rfl (Or.inr ⟨by kernel_rfl, rfl⟩) hHeld ?_
         refine tG 30 (v := undef) rfl (Or.inr ⟨by kernel_rfl, rfl⟩) hHeld ?_
         refine tG 31 (v := undef) rfl (Or.inr ⟨by kernel_rfl, rfl⟩) hHeld ?_
         refine tG 32 (v := undef) rfl (Or.inr ⟨by kernel_rfl, rfl⟩) hHeld ?_
         refine tG 33 (v := undef) rfl (Or.inr ⟨by kernel_rfl, rfl⟩) hHeld ?_
         refine tG 34 (v := undef) rfl (Or.inr ⟨by kernel_rfl, rfl⟩) hHeld ?_
         refine tG 35 (v := undef) rfl (Or.inr ⟨by kernel_rfl, rfl⟩) hHeld ?_
         refine tG 36 (v := undef) rfl (Or.inr ⟨by kernel_rfl, rfl⟩) hHeld ?_
         refine tG 37 (v := undef) rfl (Or.inr ⟨by kernel_rfl, rfl⟩) hHeld ?_
         refine tG 38 (v := undef) rfl (Or.inr ⟨by kernel_rfl, rfl⟩) hHeld ?_
         refine rd (rs := [39]) ?_
         refine AllReadyH.cons (o := ⟨some 50, .call { callee := .value (.func 87), args := #[.tmp 44, .tmp 49], argTypes := #[62, 62] }, 4, "ref.go:28", #[⟨33, .data⟩, ⟨38, .data⟩, ⟨27, .chain⟩, ⟨27, .guard⟩], some (27, false)⟩) rfl (fun K hK => ?_) AllReadyH.nil
         rw [if_neg (Bool.eq_false_iff.1 (by kernel_rfl))]
         refine hK.out _ _ hHeld (fun hHeld => ?_)
         clear hK K
         try simp only [Act.put, sA, s0, s1]
         refine tQ 40 rfl hHeld ?_
         refine tQ 41 rfl hHeld ?_
         refine tQ 42 rfl hHeld ?_
         refine wpAnyH_done (by kernel_rfl) ?_ _
         have hend := Lib.hid (hf2.out W2 hHeld (by trivial))
         clear hHeld
         go_wp2_with fail
         exact hend.out
       · have hle' : decide (x.no ≤ q.no) = false := by simpa using hle
         rw [decide_eq_true (by omega), Bool.true_and] at hf'
         clear hle
         simp only [hle']
         refine tQ 28 rfl hHeld ?_
         refine tX 29 rfl (fun wz hSw => hsc.out wz hSw) hHeld ?_
         refine tQ 30 rfl hHeld ?_
         refine tQ 31 rfl hHeld ?_
         refine tQ 32 rfl hHeld ?_
         refine tY 33 rfl b (off + k' * 67) (rq) (fun wz h => hrq.out wz h) Tryz.underlying62 hiq.out hHeld ?_
         refine tQ 34 rfl hHeld ?_
         refine tX 35 rfl (fun wz hSw => hsc.out wz hSw) hHeld ?_
         refine tQ 36 rfl hHeld ?_
         refine tQ 37 rfl hHeld ?_
         refine tY 38 rfl b (off + k * 67) (rx) (fun wz h => hrg.out wz h) Tryz.underlying62 hi.out hHeld ?_
         refine tO 39 rfl (fun K hK => ?_)
         go_simp
         go_at_call 87
         refine (hct.out W2).mono ?_
         rintro e W3 ⟨rfl, hb1⟩
         refine hK.out _ _ (hHeld.trans (hb1.mono hHeld.size)) (fun hHeld2 => ?_)
         clear hb1
         clear hHeld
         have hHeld := hHeld2
         clear hHeld2
         clear hK K
         try simp only [Act.put, sA, s0, s1]
         refine tQ 40 rfl hHeld ?_
         cases C with
         | true =>
          rw [Bool.not_true, Bool.false_and] at hf'
          subst hf'
          refine tQ 41 rfl hHeld ?_
          refine tQ 42 rfl hHeld ?_
          refine wpAnyH_done (by kernel_rfl) ?_ _
          have hend := Lib.hid (hf2.out W3 hHeld (by trivial))
          clear hHeld
          go_wp2_with fail
          exact hend.out
         | false =>
          rw [Bool.not_false, Bool.true_and] at hf'
          have hf2' := Lib.hid hf'
          have hnx : Hid ((k + 1 = 0 ∧ some x = none) ∨ ∃ q : Rt, 0 < k + 1 ∧ V.rs[k + 1 - 1]? = some q ∧ some x = some q) := .inr ⟨x, by omega, by rw [Nat.add_sub_cancel]; exact hkx'.out, rfl⟩
          clear hf'
          refine tQ 41 rfl hHeld ?_
          refine tQ 42 rfl hHeld ?_
          refine wpAnyH_done (by kernel_rfl) ?_ _
          have hb9 := Lib.hid hHeld
          clear hHeld
          go_wp2_with fail
          go_roundw
          case rel => exact ⟨k + 1, some x, by omega, by go_num, hb9, hf2', hnx⟩
          case measure => simp [intOf]; omega
  · obtain rfl : n = k := by omega
    rw [List.drop_eq_nil_of_le (by omega)] at hf
    have hz : true = Z := hf.out
    subst hz
    have hend := Lib.hid (hf1.out wr hbr.out rfl)
    go_wp2_with fail
    exact hend.out
end Go.Proofs.YtlpgjdlkjahdgaaGreatDoor
