/- the reference 32: Check -/
import Derived.Test.YtnonfdcbnkdmcaaGreatDoorAl
import Derived.Test.YtnonfdcbnkdmcaaGreatDoorRvA
namespace Go
theorem share {p G : Prop} (h : G → p) (key : G) : p := h key
end Go
namespace Go.Proofs.YtnonfdcbnkdmcaaGreatDoor
open Go.RowKit Go.Mem Go.Shelf
open Go.Vw (Hd Fk fitsB lastH verH headOk headsOk rangeB validB checkV ownsB zeroH)

def ChI (l : List Hd) (k : Nat) (p : Option Int) (la : Int) : Prop := (k = 0 ∧ p = none ∧ la = 0) ∨ ∃ q : Hd, 0 < k ∧ l[k - 1]? = some q ∧ p = some q.no ∧ la = q.no
def prvB (p : Option Int) (n : Int) : Bool := match p with | none => true | some q => decide (q < n)
theorem headOk_eq (v : Vw.V) (p : Option Int) (h : Hd) : headOk v p h = (ownsB v h && prvB p h.no && fitsB h v.ds) := by cases p <;> rfl
theorem ChI.last {l : List Hd} {p : Option Int} {la : Int} (h : ChI l l.length p la) : la = (lastH l).no := by
 rcases h with ⟨h0, _, e⟩ | ⟨q, h0, hq, _, e⟩
 · rw [e, List.eq_nil_of_length_eq_zero h0]; rfl
 · obtain ⟨j, hj⟩ : ∃ j, l.length = j + 1 := ⟨l.length - 1, by omega⟩
   rw [e, lastH_get hj (by rw [hj, Nat.add_sub_cancel] at hq; exact hq)]
theorem ver32b_any (pub : Int) (h : Hd) (hp : I64 pub) (ok : OkH h) (w : World) : Calls Tryz.prog 54 #[.int .i64 pub, .agg (hdC h).toArray] w (RetBo (verH pub h) w) :=
 r30verify_any pub h.st h.fo h.no h.R h.S h.ch hp ok.st ok.fo ok.no ok.R ok.ch w

set_option maxRecDepth 20000 in
set_option maxHeartbeats 16000000 in
theorem r32check_any (v : Vw.V) (da : Option Addr) (dn dc : Nat) (ha : Option Addr) (hn hc : Nat) (w : World) (H : VM w v da dn dc ha hn hc) :
 Calls Tryz.prog 27 #[.agg (vwC v da dn dc ha hn hc).toArray] w (RetI (checkV v) w) := by
 have H' := Lib.hid H
 have hlen := H.hs.rs.len
 have hnb := H.hs.bd
 have hdl := Lib.hid H.ds.len
 have hdb := H.bd
 have n63 : (hn : Int) ≤ 100000 := by omega
 have d63 : (dn : Int) ≤ 100000 := by omega
 have hpi := H.pub
 clear H
 obtain ⟨X, hX⟩ : ∃ X, X = RetI (checkV v) w := ⟨_, rfl⟩
 have hret : Hid (∀ W n, checkV v = n → Below w.heap.size w W → X (.returned (.int .i64 n)) W) := fun W n hn h => by rw [hX, hn]; exact ⟨rfl, h⟩
 rw [← hX]
 clear hX
 obtain ⟨tb, htb⟩ : ∃ tb, Hid (w.heap.size = tb) := ⟨_, rfl⟩
 go_enter Tryz.func27, Tryz.ntmps27
 go_upto_region 1 with fail
 rw [htb.out]
 generalize hW : World.alloc w _ = W1
 have hB : Hid (Blk W1 tb 50 (vwC v da dn dc ha hn hc)) := by rw [← hW, ← htb.out]; exact Blk.new w _ _
 have hbw : Hid (Below w.heap.size w W1) := by rw [← hW]; exact (Below.refl _ w).alloc (Nat.le_refl _) _
 clear hW
 have v0 := hB.out.at_ (i := 0) rfl
 have v1 := hB.out.at_ (i := 1) rfl
 by_cases hr : 0 ≤ v.st ∧ v.st < 4 ∧ 0 ≤ v.fo ∧ v.fo < 16
 case neg =>
  have hchk : checkV v = 320 := by
   unfold checkV validB rangeB
   by_cases h1 : 0 ≤ v.st ∧ v.st < 4
   · rw [decide_eq_false (p := 0 ≤ v.fo ∧ v.fo < 16) (by omega)]; simp
   · rw [decide_eq_false h1]; simp
  have hend := Lib.hid (hret.out W1 320 hchk hbw.out)
  clear hchk hret
  by_cases p1 : v.st < 0
  · have q1 : decide (v.st < 0) = true := decide_eq_true p1
    go_wp2_with fail
    exact hend.out
  · have q1 : decide (v.st < 0) = false := decide_eq_false p1
    by_cases p2 : 4 ≤ v.st
    · have q2 : decide (4 ≤ v.st) = true := decide_eq_true p2
      go_wp2_with fail
      exact hend.out
    · have q2 : decide (4 ≤ v.st) = false := decide_eq_false p2
      by_cases p3 : v.fo < 0
      · have q3 : decide (v.fo < 0) = true := decide_eq_true p3
        go_wp2_with fail
        exact hend.out
      · have q3 : decide (v.fo < 0) = false := decide_eq_false p3
        have q4 : decide (16 ≤ v.fo) = true := decide_eq_true (by omega)
        go_wp2_with fail
        exact hend.out
 have q1 : decide (v.st < 0) = false := decide_eq_false (by omega)
 have q2 : decide (4 ≤ v.st) = false := decide_eq_false (by omega)
 have q3 : decide (v.fo < 0) = false := decide_eq_false (by omega)
 have q4 : decide (16 ≤ v.fo) = false := decide_eq_false (by omega)
 obtain ⟨Z, hZ⟩ : ∃ Z, Hid (headsOk v none v.hs = Z) := ⟨_, rfl⟩
 have hv0 : Hid (∀ wz, Below W1.heap.size W1 wz → wz.cell? ⟨tb, 0, none⟩ = some (.int .i64 v.st)) := fun wz h => (hB.out.below h hB.out.lt).at_ (i := 0) rfl
 have hv1 : Hid (∀ wz, Below W1.heap.size W1 wz → wz.cell? ⟨tb, 1, none⟩ = some (.int .i64 v.fo)) := fun wz h => (hB.out.below h hB.out.lt).at_ (i := 1) rfl
 have hv2 : Hid (∀ wz, Below W1.heap.size W1 wz → wz.cell? ⟨tb, 2, none⟩ = some (.int .i64 v.pub)) := fun wz h => (hB.out.below h hB.out.lt).at_ (i := 2) rfl
 have hv3 : Hid (∀ wz, Below W1.heap.size W1 wz → wz.cell? ⟨tb, 3, none⟩ = some (.slice da dn dc)) := fun wz h => (hB.out.below h hB.out.lt).at_ (i := 3) rfl
 have hv4 : Hid (∀ wz, Below W1.heap.size W1 wz → wz.cell? ⟨tb, 4, none⟩ = some (.slice ha hn hc)) := fun wz h => (hB.out.below h hB.out.lt).at_ (i := 4) rfl
 have hz0 := hZ.out
 go_upto_region 3 with fail
 clear v0 v1 q1 q2 q3 q4
 have hver0 := Lib.hid (fun x ok W => ver32b_any v.pub x hpi ok W)
 have hfit0 := Lib.hid (fun x ok W (hW : Below w.heap.size w W) => r32fits_any x ok da dn dc v.ds W (H'.out.ds.below hW) hdb)
 have hlast : Hid (∀ p la, ChI v.hs hn p la → la = (lastH v.hs).no) := fun p la h => ChI.last (by rw [hlen]; exact h)
 have hHS : Hid (HS w ha hn hc v.hs) := H'.out.hs
 go_wp2_with fail
 go_loopw [3, 4] (fun lav i wr => ∃ (k : Nat) (p : Option Int) (la : Int), k ≤ hn ∧ lav = .int .i64 la ∧ i = .int .i64 (k : Int) ∧ Hid (Below W1.heap.size W1 wr) ∧ Hid (ChI v.hs k p la) ∧ Hid (headsOk v p (v.hs.drop k) = Z)) (fun _ i _ => hn - (intOf i).toNat)
 case atStart => exact ⟨0, none, 0, Nat.zero_le _, rfl, rfl, Below.refl _ _, .inl ⟨rfl, rfl, rfl⟩, hz0⟩
 case round =>
  obtain ⟨k, p, la, hk, rfl, rfl, hbr, hpv, hf⟩ := hrel
  generalize wr = wq at *
  have hv4q := hv4.out wq hbr.out
  by_cases hlt : k < hn
  · obtain ⟨x, hx⟩ : ∃ x, v.hs[k]? = some x := ⟨_, List.getElem?_eq_getElem (by omega)⟩
    have hx' := Lib.hid hx
    obtain ⟨b, off, rfl, hbl, ok, hrg0⟩ := hHS.out.get hx
    have hf' := hf.out
    rw [List.drop_eq_getElem_cons (by omega), (List.getElem?_eq_some_iff.1 hx).2, headsOk, headOk_eq] at hf'
    have hrg := Lib.hid (fun wz (h : Below W1.heap.size W1 wz) => show wz.rangeAt b (off + k * 37) (hdC x) from fun j u hu => ((hbw.out.trans (h.mono hbw.out.size)).cell (p := ⟨b, _, none⟩) hbl).trans (hrg0 j u hu))
    have hrgq := Lib.hid (hrg.out wq hbr.out)
    have hxi := Lib.hid (infoHd ok)
    have hxl := hdC_len ok
    have hone := (hdC_r ok).one
    have k0 : (0 : Int) ≤ (k : Int) := by omega
    have k1 : (k : Int) < (hn : Int) := by omega
    obtain ⟨g5, hg5⟩ : ∃ g, Hid (wq.heap.size = g) := ⟨_, rfl⟩
    obtain ⟨V7, hP⟩ := put_row (ty := 36) (Blk.new wq 36 zrH) (x := hdC x) (by rw [hxl]; rfl) hxi.out hone
    have hb57 : Hid (Below W1.heap.size W1 V7) := hbr.out.trans ((below_grown ((Below.refl _ wq).alloc (Nat.le_refl _) _) hP.grown (by simp) (Nat.le_refl _)).mono hbr.out.size)
    have hbw7 : Hid (Below w.heap.size w V7) := hbw.out.trans (hb57.out.mono hbw.out.size)
    have b5 : Hid (Blk V7 g5 36 (hdC x)) := by rw [← hg5.out]; exact hP.blk
    have B7 : Hid (Blk V7 tb 50 (vwC v da dn dc (some ⟨b, off, none⟩) hn hc)) := hB.out.below hb57.out hB.out.lt
    have hP' := Lib.hid hP
    rw [hg5.out] at hP'
    clear hP
    have hx0 : Hid (∀ wz, Below V7.heap.size V7 wz → wz.cell? ⟨g5, 0, none⟩ = some (.int .i64 x.st)) := fun wz h => (b5.out.below h b5.out.lt).at_ (hdC_0 x)
    have hx1 : Hid (∀ wz, Below V7.heap.size V7 wz → wz.cell? ⟨g5, 1, none⟩ = some (.int .i64 x.fo)) := fun wz h => (b5.out.below h b5.out.lt).at_ (hdC_1 x)
    have hx2 : Hid (∀ wz, Below V7.heap.size V7 wz → wz.cell? ⟨g5, 2, none⟩ = some (.int .i64 x.no)) := fun wz h => (b5.out.below h b5.out.lt).at_ (hdC_2 x)
    have hxr : Hid (∀ wz, Below V7.heap.size V7 wz → wz.rangeAt g5 0 (hdC x)) := fun wz h => (b5.out.below h b5.out.lt).range
    have hv0 : Hid (∀ wz, Below V7.heap.size V7 wz → wz.cell? ⟨tb, 0, none⟩ = some (.int .i64 v.st)) := fun wz h => (B7.out.below h B7.out.lt).at_ (i := 0) rfl
    have hv1 : Hid (∀ wz, Below V7.heap.size V7 wz → wz.cell? ⟨tb, 1, none⟩ = some (.int .i64 v.fo)) := fun wz h => (B7.out.below h B7.out.lt).at_ (i := 1) rfl
    have hv2 : Hid (∀ wz, Below V7.heap.size V7 wz → wz.cell? ⟨tb, 2, none⟩ = some (.int .i64 v.pub)) := fun wz h => (B7.out.below h B7.out.lt).at_ (i := 2) rfl
    have hv3 : Hid (∀ wz, Below V7.heap.size V7 wz → wz.cell? ⟨tb, 3, none⟩ = some (.slice da dn dc)) := fun wz h => (B7.out.below h B7.out.lt).at_ (i := 3) rfl
    have hv4 : Hid (∀ wz, Below V7.heap.size V7 wz → wz.cell? ⟨tb, 4, none⟩ = some (.slice (some ⟨b, off, none⟩) hn hc)) := fun wz h => (B7.out.below h B7.out.lt).at_ (i := 4) rfl
    have hver := Lib.hid (fun W => ver32b_any v.pub x hpi ok W)
    have hfit := Lib.hid (fun W (hW : Below w.heap.size w W) => hfit0.out x ok W hW)
    obtain ⟨rx, hrx⟩ : ∃ r, Hid (hdC x = r) := ⟨_, rfl⟩
    rw [hrx.out] at hrgq hxi hxr hP' hver hfit
    clear hrg hone hxl hver0 hfit0 hB b5 B7
    go_upto_region 8 with (first
     | (refine wpList_load_mid (by rfl) 36 (.tmp 34) (by rfl) b (off + k * 37) (by rfl) rx _ hrgq.out Tryz.underlying36 (by rfl) hxi.out ?_)
      | (rw [hg5.out]
         refine wpList_store_mid (by rfl) 36 _ _ (by rfl) g5 0 rx.toArray (by rfl) (by rfl) hP'.out.there hP'.out.info (by simpa using hP'.out.one) ?_
         generalize hWq : World.setCells _ _ _ _ = Wa
         obtain rfl : V7 = Wa := by rw [← hWq]; exact hP'.out.eq
         clear hWq))
    clear hP' hg5 hrgq hv4q
    obtain ⟨vb, hvb⟩ : ∃ q, Hid (verH v.pub x = q) := ⟨_, rfl⟩
    obtain ⟨xb, hxb⟩ : ∃ q, Hid (fitsB x v.ds = q) := ⟨_, rfl⟩
    rw [hvb.out] at hver
    rw [hxb.out] at hfit
    have ho : ownsB v x = (decide (x.st = v.st) && decide (x.fo = v.fo) && vb) := by rw [← hvb.out]; rfl
    rw [ho, hxb.out] at hf'
    clear ho hvb hxb hrx
    by_cases c1 : x.st = v.st
    case neg =>
     rw [decide_eq_false c1, Bool.false_and, Bool.false_and, Bool.false_and, Bool.false_and, Bool.false_and] at hf'
     have hchk : Hid (checkV v = 320) := by show _ = _; unfold checkV validB; rw [hZ.out, ← hf']; simp
     have e1 : Hid ((x.st != v.st) = true) := by show _ = _; simpa using c1
     have e1b : Hid (decide (x.st = v.st) = false) := decide_eq_false c1
     have e1c : Hid ((x.st == v.st) = false) := by show _ = _; simpa using c1
     clear hf' c1
     refine wp_region_held_drew (S := fun wz => Below V7.heap.size V7 wz) (by kernel_rfl) ((Below.refl _ V7).drew) (fun hHeld => ?_)
     have hh0 : Below V7.heap.size V7 V7.drew := (Below.refl _ V7).drew
     generalize V7.drew = Wd at *
     refine tQ 0 rfl hHeld ?_
     refine tX 1 rfl (fun wz hSw => hx0.out wz hSw) hHeld ?_
     refine tQ 2 rfl hHeld ?_
     refine tX 3 rfl (fun wz hSw => hv0.out wz hSw) hHeld ?_
     refine tX 4 rfl (fun wz hSw => And.intro (e1.out) (And.intro (e1b.out) (e1c.out))) hHeld ?_
     refine tQ 5 rfl hHeld ?_
     refine tS 6 rfl hHeld ?_
     refine tS 7 rfl hHeld ?_
     refine tS 8 rfl hHeld ?_
     refine tS 9 rfl hHeld ?_
     refine tS 10 rfl hHeld ?_
     refine tQ 11 rfl hHeld ?_
     refine tQ 12 rfl hHeld ?_
     refine tS 13 rfl hHeld ?_
     refine tS 14 rfl hHeld ?_
     refine tS 15 rfl hHeld ?_
     refine rd (rs := [16]) ?_
     refine AllReadyH.cons (o := ⟨some 52, .call { callee := .value (.func 54), args := #[.tmp 50, .tmp 51], argTypes := #[3, 36] }, 4, "ref.go:27", #[⟨14, .data⟩, ⟨15, .data⟩, ⟨12, .chain⟩, ⟨12, .guard⟩], some (12, false)⟩) rfl (fun K hK => ?_) AllReadyH.nil
     rw [if_neg (Bool.eq_false_iff.1 (by kernel_rfl))]
     refine hK.out _ _ hHeld (fun hHeld => ?_)
     clear hK K
     try simp only [Act.put, sA, s0, s1]
     refine tS 17 rfl hHeld ?_
     refine tQ 18 rfl hHeld ?_
     refine tQ 19 rfl hHeld ?_
     refine tS 20 rfl hHeld ?_
     refine tS 21 rfl hHeld ?_
     refine tS 22 rfl hHeld ?_
     refine tS 23 rfl hHeld ?_
     refine tS 24 rfl hHeld ?_
     refine tS 25 rfl hHeld ?_
     refine tS 26 rfl hHeld ?_
     refine tS 27 rfl hHeld ?_
     refine tS 28 rfl hHeld ?_
     refine tS 29 rfl hHeld ?_
     refine tS 30 rfl hHeld ?_
     refine tS 31 rfl hHeld ?_
     refine tS 32 rfl hHeld ?_
     refine tS 33 rfl hHeld ?_
     refine tQ 34 rfl hHeld ?_
     refine tQ 35 rfl hHeld ?_
     refine tS 36 rfl hHeld ?_
     refine tS 37 rfl hHeld ?_
     refine tS 38 rfl hHeld ?_
     refine rd (rs := [39]) ?_
     refine AllReadyH.cons (o := ⟨some 75, .call { callee := .value (.func 55), args := #[.tmp 72, .tmp 74], argTypes := #[36, 47] }, 4, "ref.go:27", #[⟨36, .data⟩, ⟨38, .data⟩, ⟨35, .chain⟩, ⟨35, .guard⟩], some (35, false)⟩) rfl (fun K hK => ?_) AllReadyH.nil
     rw [if_neg (Bool.eq_false_iff.1 (by kernel_rfl))]
     refine hK.out _ _ hHeld (fun hHeld => ?_)
     clear hK K
     try simp only [Act.put, sA, s0, s1]
     refine tS 40 rfl hHeld ?_
     refine tQ 41 rfl hHeld ?_
     refine wpAnyH_done (by kernel_rfl) ?_ _
     have hend := Lib.hid (hret.out Wd 320 hchk.out (hbw7.out.trans (hHeld.mono hbw7.out.size)))
     clear hHeld
     go_wp2_with fail
     exact hend.out
    case pos =>
     rw [decide_eq_true c1, Bool.true_and] at hf'
     have e1 : Hid ((x.st != v.st) = false) := by show _ = _; simpa using c1
     have e1b : Hid (decide (x.st = v.st) = true) := decide_eq_true c1
     have e1c : Hid ((x.st == v.st) = true) := by show _ = _; simpa using c1
     clear c1
     refine wp_region_held_drew (S := fun wz => Below V7.heap.size V7 wz) (by kernel_rfl) ((Below.refl _ V7).drew) (fun hHeld => ?_)
     have hh0 : Below V7.heap.size V7 V7.drew := (Below.refl _ V7).drew
     generalize V7.drew = Wd at *
     refine tQ 0 rfl hHeld ?_
     refine tX 1 rfl (fun wz hSw => hx0.out wz hSw) hHeld ?_
     refine tQ 2 rfl hHeld ?_
     refine tX 3 rfl (fun wz hSw => hv0.out wz hSw) hHeld ?_
     refine tX 4 rfl (fun wz hSw => And.intro (e1.out) (And.intro (e1b.out) (e1c.out))) hHeld ?_
     refine tQ 5 rfl hHeld ?_
     by_cases c2 : x.fo = v.fo
     case neg =>
      rw [decide_eq_false c2, Bool.false_and, Bool.false_and, Bool.false_and, Bool.false_and] at hf'
      have hchk : Hid (checkV v = 320) := by show _ = _; unfold checkV validB; rw [hZ.out, ← hf']; simp
      have e2 : Hid ((x.fo != v.fo) = true) := by show _ = _; simpa using c2
      have e2b : Hid (decide (x.fo = v.fo) = false) := decide_eq_false c2
      have e2c : Hid ((x.fo == v.fo) = false) := by show _ = _; simpa using c2
      clear hf' c2
      refine tQ 6 rfl hHeld ?_
      refine tX 7 rfl (fun wz hSw => hx1.out wz hSw) hHeld ?_
      refine tQ 8 rfl hHeld ?_
      refine tX 9 rfl (fun wz hSw => hv1.out wz hSw) hHeld ?_
      refine tX 10 rfl (fun wz hSw => And.intro (e2.out) (And.intro (e2b.out) (e2c.out))) hHeld ?_
      refine tQ 11 rfl hHeld ?_
      refine tQ 12 rfl hHeld ?_
      refine tS 13 rfl hHeld ?_
      refine tS 14 rfl hHeld ?_
      refine tS 15 rfl hHeld ?_
      refine rd (rs := [16]) ?_
      refine AllReadyH.cons (o := ⟨some 52, .call { callee := .value (.func 54), args := #[.tmp 50, .tmp 51], argTypes := #[3, 36] }, 4, "ref.go:27", #[⟨14, .data⟩, ⟨15, .data⟩, ⟨12, .chain⟩, ⟨12, .guard⟩], some (12, false)⟩) rfl (fun K hK => ?_) AllReadyH.nil
      rw [if_neg (Bool.eq_false_iff.1 (by kernel_rfl))]
      refine hK.out _ _ hHeld (fun hHeld => ?_)
      clear hK K
      try simp only [Act.put, sA, s0, s1]
      refine tS 17 rfl hHeld ?_
      refine tQ 18 rfl hHeld ?_
      refine tQ 19 rfl hHeld ?_
      refine tS 20 rfl hHeld ?_
      refine tS 21 rfl hHeld ?_
      refine tS 22 rfl hHeld ?_
      refine tS 23 rfl hHeld ?_
      refine tS 24 rfl hHeld ?_
      refine tS 25 rfl hHeld ?_
      refine tS 26 rfl hHeld ?_
      refine tS 27 rfl hHeld ?_
      refine tS 28 rfl hHeld ?_
      refine tS 29 rfl hHeld ?_
      refine tS 30 rfl hHeld ?_
      refine tS 31 rfl hHeld ?_
      refine tS 32 rfl hHeld ?_
      refine tS 33 rfl hHeld ?_
      refine tQ 34 rfl hHeld ?_
      refine tQ 35 rfl hHeld ?_
      refine tS 36 rfl hHeld ?_
      refine tS 37 rfl hHeld ?_
      refine tS 38 rfl hHeld ?_
      refine rd (rs := [39]) ?_
      refine AllReadyH.cons (o := ⟨some 75, .call { callee := .value (.func 55), args := #[.tmp 72, .tmp 74], argTypes := #[36, 47] }, 4, "ref.go:27", #[⟨36, .data⟩, ⟨38, .data⟩, ⟨35, .chain⟩, ⟨35, .guard⟩], some (35, false)⟩) rfl (fun K hK => ?_) AllReadyH.nil
      rw [if_neg (Bool.eq_false_iff.1 (by kernel_rfl))]
      refine hK.out _ _ hHeld (fun hHeld => ?_)
      clear hK K
      try simp only [Act.put, sA, s0, s1]
      refine tS 40 rfl hHeld ?_
      refine tQ 41 rfl hHeld ?_
      refine wpAnyH_done (by kernel_rfl) ?_ _
      have hend := Lib.hid (hret.out Wd 320 hchk.out (hbw7.out.trans (hHeld.mono hbw7.out.size)))
      clear hHeld
      go_wp2_with fail
      exact hend.out
     case pos =>
      rw [decide_eq_true c2, Bool.true_and] at hf'
      have e2 : Hid ((x.fo != v.fo) = false) := by show _ = _; simpa using c2
      have e2b : Hid (decide (x.fo = v.fo) = true) := decide_eq_true c2
      have e2c : Hid ((x.fo == v.fo) = true) := by show _ = _; simpa using c2
      clear c2
      refine tQ 6 rfl hHeld ?_
      refine tX 7 rfl (fun wz hSw => hx1.out wz hSw) hHeld ?_
      refine tQ 8 rfl hHeld ?_
      refine tX 9 rfl (fun wz hSw => hv1.out wz hSw) hHeld ?_
      refine tX 10 rfl (fun wz hSw => And.intro (e2.out) (And.intro (e2b.out) (e2c.out))) hHeld ?_
      refine tQ 11 rfl hHeld ?_
      refine tQ 12 rfl hHeld ?_
      refine tQ 13 rfl hHeld ?_
      refine tX 14 rfl (fun wz hSw => hv2.out wz hSw) hHeld ?_
      refine tY 15 rfl g5 0 (rx) (fun wz h => hxr.out wz h) Tryz.underlying36 hxi.out hHeld ?_
      refine tO 16 rfl (fun K hK => ?_)
      go_simp
      go_at_call 54
      refine (hver.out _).mono ?_
      rintro e3 W3 ⟨rfl, hb3⟩
      refine hK.out _ _ (hHeld.trans (hb3.mono hHeld.size)) (fun hHeld2 => ?_)
      clear hb3
      clear hHeld
      have hHeld := hHeld2
      clear hHeld2
      clear hK K
      try simp only [Act.put, sA, s0, s1]
      refine tQ 17 rfl hHeld ?_
      refine tQ 18 rfl hHeld ?_
      refine tQ 19 rfl hHeld ?_
      cases vb with
      | false =>
       rw [Bool.false_and, Bool.false_and, Bool.false_and] at hf'
       have hchk : Hid (checkV v = 320) := by show _ = _; unfold checkV validB; rw [hZ.out, ← hf']; simp
       clear hf'
       refine tS 20 rfl hHeld ?_
       refine tS 21 rfl hHeld ?_
       refine tS 22 rfl hHeld ?_
       refine tS 23 rfl hHeld ?_
       refine tS 24 rfl hHeld ?_
       refine tS 25 rfl hHeld ?_
       refine tS 26 rfl hHeld ?_
       refine tS 27 rfl hHeld ?_
       refine tS 28 rfl hHeld ?_
       refine tS 29 rfl hHeld ?_
       refine tS 30 rfl hHeld ?_
       refine tS 31 rfl hHeld ?_
       refine tS 32 rfl hHeld ?_
       refine tS 33 rfl hHeld ?_
       refine tQ 34 rfl hHeld ?_
       refine tQ 35 rfl hHeld ?_
       refine tS 36 rfl hHeld ?_
       refine tS 37 rfl hHeld ?_
       refine tS 38 rfl hHeld ?_
       refine rd (rs := [39]) ?_
       refine AllReadyH.cons (o := ⟨some 75, .call { callee := .value (.func 55), args := #[.tmp 72, .tmp 74], argTypes := #[36, 47] }, 4, "ref.go:27", #[⟨36, .data⟩, ⟨38, .data⟩, ⟨35, .chain⟩, ⟨35, .guard⟩], some (35, false)⟩) rfl (fun K hK => ?_) AllReadyH.nil
       rw [if_neg (Bool.eq_false_iff.1 (by kernel_rfl))]
       refine hK.out _ _ hHeld (fun hHeld => ?_)
       clear hK K
       try simp only [Act.put, sA, s0, s1]
       refine tS 40 rfl hHeld ?_
       refine tQ 41 rfl hHeld ?_
       refine wpAnyH_done (by kernel_rfl) ?_ _
       have hend := Lib.hid (hret.out W3 320 hchk.out (hbw7.out.trans (hHeld.mono hbw7.out.size)))
       clear hHeld
       go_wp2_with fail
       exact hend.out
      | true =>
       rw [Bool.true_and] at hf'
       by_cases hk0 : k = 0
       · have kp : Hid (decide ((0 : Int) < (k : Int)) = false) := decide_eq_false (by omega)
         have kp2 : Hid (decide (0 < k) = false) := decide_eq_false (by omega)
         have hp0 : p = none := by rcases hpv.out with h | ⟨q, h, _⟩; exact h.2.1; omega
         subst hp0
         rw [show prvB none x.no = true from rfl, Bool.true_and] at hf'
         clear hk0
         refine tQ 20 rfl hHeld ?_
         refine tX 21 rfl (fun wz hSw => And.intro (kp.out) (kp2.out)) hHeld ?_
         refine tQ 22 rfl hHeld ?_
         refine tS 23 rfl hHeld ?_
         refine tS 24 rfl hHeld ?_
         refine tS 25 rfl hHeld ?_
         refine tS 26 rfl hHeld ?_
         refine tS 27 rfl hHeld ?_
         refine tS 28 rfl hHeld ?_
         refine tS 29 rfl hHeld ?_
         refine tS 30 rfl hHeld ?_
         refine tS 31 rfl hHeld ?_
         refine tS 32 rfl hHeld ?_
         refine tQ 33 rfl hHeld ?_
         refine tQ 34 rfl hHeld ?_
         refine tQ 35 rfl hHeld ?_
         refine tY 36 rfl g5 0 (rx) (fun wz h => hxr.out wz h) Tryz.underlying36 hxi.out hHeld ?_
         refine tQ 37 rfl hHeld ?_
         refine tX 38 rfl (fun wz hSw => hv3.out wz hSw) hHeld ?_
         refine tO 39 rfl (fun K hK => ?_)
         go_simp
         go_at_call 55
         refine (hfit.out _ (hbw7.out.trans (hHeld.mono hbw7.out.size))).mono ?_
         rintro e4 W4 ⟨rfl, hb4⟩
         refine hK.out _ _ (hHeld.trans (hb4.mono hHeld.size)) (fun hHeld2 => ?_)
         clear hb4
         clear hHeld
         have hHeld := hHeld2
         clear hHeld2
         clear hK K
         try simp only [Act.put, sA, s0, s1]
         refine tQ 40 rfl hHeld ?_
         refine tQ 41 rfl hHeld ?_
         cases xb with
         | false =>
          rw [Bool.false_and] at hf'
          have hchk : Hid (checkV v = 320) := by show _ = _; unfold checkV validB; rw [hZ.out, ← hf']; simp
          refine wpAnyH_done (by kernel_rfl) ?_ _
          have hend := Lib.hid (hret.out W4 320 hchk.out (hbw7.out.trans (hHeld.mono hbw7.out.size)))
          clear hHeld
          go_wp2_with fail
          exact hend.out
         | true =>
          rw [Bool.true_and] at hf'
          have hf2 := Lib.hid hf'
          have hnx : Hid (ChI v.hs (k + 1) (some x.no) x.no) := .inr ⟨x, by omega, by rw [Nat.add_sub_cancel]; exact hx'.out, rfl, rfl⟩
          clear hf'
          refine wpAnyH_done (by kernel_rfl) ?_ _
          have hb9 := Lib.hid (hb57.out.trans (hHeld.mono hb57.out.size))
          have hx2w := hx2.out W4 hHeld
          clear hHeld
          go_wp2_with fail
          go_roundw
          case rel => exact ⟨k + 1, some x.no, x.no, by omega, rfl, by go_num, hb9, hnx, hf2⟩
          case measure => simp [intOf]; omega
       · obtain ⟨q, hq0, hqe, hqd⟩ : ∃ q : Hd, 0 < k ∧ v.hs[k - 1]? = some q ∧ p = some q.no := by rcases hpv.out with h | ⟨q, h1, h2, h3, _⟩; exact absurd h.1 hk0; exact ⟨q, h1, h2, h3⟩
         subst hqd
         obtain ⟨k', hk'⟩ : ∃ k', k - 1 = k' := ⟨_, rfl⟩
         rw [hk'] at hqe
         obtain ⟨b2, off2, hab, hbl2, _, hrq0⟩ := hHS.out.get hqe
         cases hab
         have hq2 : Hid (∀ wz, Below V7.heap.size V7 wz → wz.cell? ⟨b, off + k' * 37 + 2, none⟩ = some (.int .i64 q.no)) := fun wz h => ((hbw7.out.trans (h.mono hbw7.out.size)).cell (p := ⟨b, _, none⟩) hbl2).trans (hrq0 2 _ (hdC_2 q))
         have kp : Hid (decide ((0 : Int) < (k : Int)) = true) := decide_eq_true (by omega)
         have kp2 : Hid (decide (0 < k) = true) := decide_eq_true (by omega)
         have kk : Hid ((k : Int) - 1 = (k' : Int)) := by show _ = _; omega
         have hwk : Hid (IntKind.i64.wrap (k' : Int) = (k' : Int)) := IntWalk.i64_in _ ⟨by omega, by omega⟩
         have hk'0 : (0 : Int) ≤ (k' : Int) := by omega
         have hk'2 : (k' : Int) < (hn : Int) := by omega
         clear hrq0 hqe hk' hk0 hbl2
         by_cases c4 : x.no ≤ q.no
         · have e4 : Hid (decide (x.no ≤ q.no) = true) := decide_eq_true c4
           have hpq : decide (q.no < x.no) = false := decide_eq_false (by omega)
           rw [show prvB (some q.no) x.no = decide (q.no < x.no) from rfl, hpq, Bool.false_and, Bool.false_and] at hf'
           have hchk : Hid (checkV v = 320) := by show _ = _; unfold checkV validB; rw [hZ.out, ← hf']; simp
           clear hf' c4 hpq
           refine tQ 20 rfl hHeld ?_
           refine tX 21 rfl (fun wz hSw => And.intro (kp.out) (kp2.out)) hHeld ?_
           refine tQ 22 rfl hHeld ?_
           refine tQ 23 rfl hHeld ?_
           refine tX 24 rfl (fun wz hSw => hx2.out wz hSw) hHeld ?_
           refine tQ 25 rfl hHeld ?_
           refine tX 26 rfl (fun wz hSw => hv4.out wz hSw) hHeld ?_
           refine tQ 27 rfl hHeld ?_
           refine tX 28 rfl (fun wz hSw => And.intro (kk.out) (hwk.out)) hHeld ?_
           refine tQ 29 rfl hHeld ?_
           refine tQ 30 rfl hHeld ?_
           refine tX 31 rfl (fun wz hSw => hq2.out wz hSw) hHeld ?_
           refine tX 32 rfl (fun wz hSw => e4.out) hHeld ?_
           refine tQ 33 rfl hHeld ?_
           refine tQ 34 rfl hHeld ?_
           refine tQ 35 rfl hHeld ?_
           refine tS 36 rfl hHeld ?_
           refine tS 37 rfl hHeld ?_
           refine tS 38 rfl hHeld ?_
           refine rd (rs := [39]) ?_
           refine AllReadyH.cons (o := ⟨some 75, .call { callee := .value (.func 55), args := #[.tmp 72, .tmp 74], argTypes := #[36, 47] }, 4, "ref.go:27", #[⟨36, .data⟩, ⟨38, .data⟩, ⟨35, .chain⟩, ⟨35, .guard⟩], some (35, false)⟩) rfl (fun K hK => ?_) AllReadyH.nil
           rw [if_neg (Bool.eq_false_iff.1 (by kernel_rfl))]
           refine hK.out _ _ hHeld (fun hHeld => ?_)
           clear hK K
           try simp only [Act.put, sA, s0, s1]
           refine tS 40 rfl hHeld ?_
           refine tQ 41 rfl hHeld ?_
           refine wpAnyH_done (by kernel_rfl) ?_ _
           have hend := Lib.hid (hret.out W3 320 hchk.out (hbw7.out.trans (hHeld.mono hbw7.out.size)))
           clear hHeld
           go_wp2_with fail
           exact hend.out
         · have e4 : Hid (decide (x.no ≤ q.no) = false) := decide_eq_false c4
           have hpq : decide (q.no < x.no) = true := decide_eq_true (by omega)
           rw [show prvB (some q.no) x.no = decide (q.no < x.no) from rfl, hpq, Bool.true_and] at hf'
           clear c4 hpq
           refine tQ 20 rfl hHeld ?_
           refine tX 21 rfl (fun wz hSw => And.intro (kp.out) (kp2.out)) hHeld ?_
           refine tQ 22 rfl hHeld ?_
           refine tQ 23 rfl hHeld ?_
           refine tX 24 rfl (fun wz hSw => hx2.out wz hSw) hHeld ?_
           refine tQ 25 rfl hHeld ?_
           refine tX 26 rfl (fun wz hSw => hv4.out wz hSw) hHeld ?_
           refine tQ 27 rfl hHeld ?_
           refine tX 28 rfl (fun wz hSw => And.intro (kk.out) (hwk.out)) hHeld ?_
           refine tQ 29 rfl hHeld ?_
           refine tQ 30 rfl hHeld ?_
           refine tX 31 rfl (fun wz hSw => hq2.out wz hSw) hHeld ?_
           refine tX 32 rfl (fun wz hSw => e4.out) hHeld ?_
           refine tQ 33 rfl hHeld ?_
           refine tQ 34 rfl hHeld ?_
           refine tQ 35 rfl hHeld ?_
           refine tY 36 rfl g5 0 (rx) (fun wz h => hxr.out wz h) Tryz.underlying36 hxi.out hHeld ?_
           refine tQ 37 rfl hHeld ?_
           refine tX 38 rfl (fun wz hSw => hv3.out wz hSw) hHeld ?_
           refine tO 39 rfl (fun K hK => ?_)
           go_simp
           go_at_call 55
           refine (hfit.out _ (hbw7.out.trans (hHeld.mono hbw7.out.size))).mono ?_
           rintro e4 W4 ⟨rfl, hb4⟩
           refine hK.out _ _ (hHeld.trans (hb4.mono hHeld.size)) (fun hHeld2 => ?_)
           clear hb4
           clear hHeld
           have hHeld := hHeld2
           clear hHeld2
           clear hK K
           try simp only [Act.put, sA, s0, s1]
           refine tQ 40 rfl hHeld ?_
           refine tQ 41 rfl hHeld ?_
           cases xb with
           | false =>
            rw [Bool.false_and] at hf'
            have hchk : Hid (checkV v = 320) := by show _ = _; unfold checkV validB; rw [hZ.out, ← hf']; simp
            refine wpAnyH_done (by kernel_rfl) ?_ _
            have hend := Lib.hid (hret.out W4 320 hchk.out (hbw7.out.trans (hHeld.mono hbw7.out.size)))
            clear hHeld
            go_wp2_with fail
            exact hend.out
           | true =>
            rw [Bool.true_and] at hf'
            have hf2 := Lib.hid hf'
            have hnx : Hid (ChI v.hs (k + 1) (some x.no) x.no) := .inr ⟨x, by omega, by rw [Nat.add_sub_cancel]; exact hx'.out, rfl, rfl⟩
            clear hf'
            refine wpAnyH_done (by kernel_rfl) ?_ _
            have hb9 := Lib.hid (hb57.out.trans (hHeld.mono hb57.out.size))
            have hx2w := hx2.out W4 hHeld
            clear hHeld
            go_wp2_with fail
            go_roundw
            case rel => exact ⟨k + 1, some x.no, x.no, by omega, rfl, by go_num, hb9, hnx, hf2⟩
            case measure => simp [intOf]; omega
  · obtain rfl : k = hn := by omega
    have hf' := hf.out
    rw [List.drop_eq_nil_of_le (by omega)] at hf'
    have hZt : Z = true := by rw [← hf']; rfl
    have hla := hlast.out p la hpv.out
    have hv3q := hv3.out wq hbr.out
    clear hf' hf hpv hlast
    have hbq := Lib.hid (hbw.out.trans (hbr.out.mono hbw.out.size))
    by_cases c5 : la = (dn : Int)
    · have hchk : checkV v = 0 := by
       unfold checkV validB rangeB
       rw [hZ.out, hZt, ← hla, c5, hdl.out, decide_eq_true (by omega), decide_eq_true (by omega), decide_eq_true rfl]
       rfl
      have hend := Lib.hid (hret.out wq 0 hchk hbq.out)
      have e5 : (la != (dn : Int)) = false := by simpa using c5
      clear hchk hla
      subst c5
      go_wp2_with fail
      exact hend.out
    · have hchk : checkV v = 320 := by
       unfold checkV validB rangeB
       rw [← hla, hdl.out, decide_eq_false c5]
       simp
      have hend := Lib.hid (hret.out wq 320 hchk hbq.out)
      have e5 : (la != (dn : Int)) = true := by simpa using c5
      clear hchk hla c5
      go_wp2_with fail
      exact hend.out
theorem build_zrF (W : World) : (Instr.build 53 #[]).run Tryz.prog W = .ok (.agg zrF.toArray) W := run_build W _ _ _ (by kernel_rfl)
end Go.Proofs.YtnonfdcbnkdmcaaGreatDoor
