/- the reference 32: Fits the reference 32: last, odd, IsEntry -/
import Derived.Test.YtnonfdcbnkdmcaaGreatDoorAl
import Derived.Test.YtnonfdcbnkdmcaaGreatDoorRsH
import Derived.Test.YtnonfdcbnkdmcaaGreatDoorVwC
import Derived.Test.YtnonfdcbnkdmcaaGreatDoorKey
namespace Go.Proofs.YtnonfdcbnkdmcaaGreatDoor
open Go.RowKit Go.Mem Go.Shelf
open Go.Vw (Hd Fk fitsB verH proveV proveB)

set_option maxRecDepth 20000 in
set_option maxHeartbeats 2000000 in
theorem r32fits_any (h : Hd) (ok : OkH h) (a : Option Addr) (n c : Nat) (ds : List (List Nat)) (w : World) (H : DS w a n c ds) (hbd : n ≤ 100000) :
 Calls Tryz.prog 55 #[.agg (hdC h).toArray, .slice a n c] w (RetBo (fitsB h ds) w) := by
 have H' := Lib.hid H
 have hlen := Lib.hid H.len
 have n63 : (n : Int) ≤ 100000 := by omega
 clear H
 obtain ⟨X, hX⟩ : ∃ X, X = RetBo (fitsB h ds) w := ⟨_, rfl⟩
 have hfin : Hid (∀ v W, fitsB h ds = v → Below w.heap.size w W → X (.returned (.bool v)) W) := fun v W hv h => by rw [hX, hv]; exact ⟨rfl, h⟩
 rw [← hX]
 clear hX
 obtain ⟨tb, htb⟩ : ∃ tb, Hid (w.heap.size = tb) := ⟨_, rfl⟩
 have hR := hdC_r ok
 go_enter Tryz.func55, Tryz.ntmps55
 go_upto_region 1 with fail
 rw [htb.out]
 generalize hW : World.alloc w _ = W1
 have hB : Hid (Blk W1 tb 36 (hdC h)) := by rw [← hW, ← htb.out]; exact Blk.new w _ _
 have hb1 : Hid (Below w.heap.size w W1) := by rw [← hW]; exact (Below.refl _ w).alloc (Nat.le_refl _) _
 clear hW
 have hc1 : Hid (∀ wz, Below W1.heap.size W1 wz → wz.cell? ⟨tb, 1, none⟩ = some (.int .i64 h.fo)) := fun wz hz => (hB.out.below hz hB.out.lt).at_ (i := 1) rfl
 have hc2 : Hid (∀ wz, Below W1.heap.size W1 wz → wz.cell? ⟨tb, 2, none⟩ = some (.int .i64 h.no)) := fun wz hz => (hB.out.below hz hB.out.lt).at_ (i := 2) rfl
 have hr3 : Hid (∀ wz, Below W1.heap.size W1 wz → wz.rangeAt tb 3 (bv h.ch)) := fun wz hz j v hv => (hB.out.below hz hB.out.lt).at_ (i := 3 + j) (by
  show (headC h.st h.fo h.no h.ch h.R h.S)[3 + j]? = some v
  unfold headC
  rw [List.getElem?_append_right (by simp)]
  have hl := (List.getElem?_eq_some_iff.1 hv).1
  rw [show 3 + j - [Value.int .i64 h.st, .int .i64 h.fo, .int .i64 h.no].length = j by simp, List.getElem?_append_left hl]
  exact hv)
 clear hR
 by_cases h0 : 0 ≤ h.no
 · by_cases h1 : h.no ≤ (n : Int)
   · obtain ⟨k, hk⟩ : ∃ k : Nat, h.no = (k : Int) := ⟨h.no.toNat, by omega⟩
     have hkn : k ≤ n := by omega
     obtain ⟨q, hq⟩ : ∃ q, Hid (decide (chainD h.fo (ds.take k) = h.ch) = q) := ⟨_, rfl⟩
     have hv : Hid (fitsB h ds = q) := by
      show _ = _
      unfold fitsB
      rw [hk, Int.toNat_natCast, hq.out, decide_eq_true (by have := hlen.out; constructor <;> omega), Bool.true_and]
     have hsl := Lib.hid (fun W => dslice_h H'.out hkn W)
     have hch := Lib.hid (fun W (hW : Below w.heap.size w W) => r30chain_any h.fo ok.fo a k c (ds.take k) W ((H'.out.below hW).take hkn))
     have hC32 : Dig (chainD h.fo (ds.take k)) := by obtain ⟨x, y⟩ := chain_len h.fo (ds.take k); exact ⟨x, y⟩
     have hch32 : Dig h.ch := ⟨ok.ch.1, ok.ch.2⟩
     have heq := Lib.hid (fun W => eq_dig hC32 hch32 W)
     have hdi : Hid ((Tryz.prog.info? 32).map (·.size) = some (bv h.ch).length) := by show _ = _; rw [bv_length, hch32.1]; exact size35
     rw [hq.out] at heq
     rw [hk] at hc2 h0 h1
     clear hC32 hch32 hq hB
     generalize chainD h.fo (ds.take k) = C at *
     clear hk
     refine wp_region_held_drew (S := fun wz => Below W1.heap.size W1 wz) (by kernel_rfl) ((Below.refl _ W1).drew) (fun hHeld => ?_)
     generalize W1.drew = Wd at *
     refine tQ 0 rfl hHeld ?_
     refine tX 1 rfl (fun wz hSw => hc2.out wz hSw) hHeld ?_
     refine tQ 2 rfl hHeld ?_
     refine tQ 3 rfl hHeld ?_
     refine tQ 4 rfl hHeld ?_
     refine tX 5 rfl (fun wz hSw => hc2.out wz hSw) hHeld ?_
     refine tQ 6 rfl hHeld ?_
     refine tQ 7 rfl hHeld ?_
     refine tQ 8 rfl hHeld ?_
     refine tQ 9 rfl hHeld ?_
     refine tQ 10 rfl hHeld ?_
     refine tQ 11 rfl hHeld ?_
     refine tX 12 rfl (fun wz hSw => hc1.out wz hSw) hHeld ?_
     refine tQ 13 rfl hHeld ?_
     refine tQ 14 rfl hHeld ?_
     refine tX 15 rfl (fun wz hSw => hc2.out wz hSw) hHeld ?_
     refine tX 16 rfl (fun wz hSw => hsl.out) hHeld ?_
     refine tQ 18 rfl hHeld ?_
     refine tY 19 rfl tb 3 (bv h.ch) (fun wz h => hr3.out wz h) Tryz.underlying32 hdi.out hHeld ?_
     refine tO 17 rfl (fun K hK => ?_)
     go_simp
     go_at_call 88
     refine (hch.out _ (hb1.out.trans (hHeld.mono hb1.out.size))).mono ?_
     rintro e W3 ⟨rfl, hb3⟩
     refine hK.out _ _ (hHeld.trans (hb3.mono hHeld.size)) (fun hHeld2 => ?_)
     have hHeld3 := hHeld.trans (hb3.mono hHeld.size)
     clear hHeld hHeld2 hb3
     have hHeld := hHeld3
     clear hHeld3
     clear hK K
     try simp only [Act.put, sA, s0, s1]
     refine tX 20 rfl (fun wz hSw => heq.out) hHeld ?_
     refine tQ 21 rfl hHeld ?_
     refine tQ 22 rfl hHeld ?_
     refine wpAnyH_done (by kernel_rfl) ?_ _
     have hend := Lib.hid (hfin.out q _ hv.out (hb1.out.trans (hHeld.mono hb1.out.size)))
     clear hHeld
     go_wp2_with fail
     exact hend.out
   · have hend := Lib.hid (fun m => hfin.out false (W1.drewN m) (by unfold fitsB; rw [decide_eq_false (by rw [hlen.out]; omega), Bool.false_and]) (hb1.out.trans (below_drewN _ _ _)))
     have q0 := hc2.out W1 (Below.refl _ _)
     have q1 : decide (0 ≤ h.no) = true := decide_eq_true h0
     have q2 : decide (h.no ≤ (n : Int)) = false := decide_eq_false h1
     clear hfin hB hc1 hr3 hc2
     go_wp2_with fail
     go_quiet (fail)
     go_wp2_with fail
     exact hend.out _
 · have hend := Lib.hid (fun m => hfin.out false (W1.drewN m) (by unfold fitsB; rw [decide_eq_false (by omega), Bool.false_and]) (hb1.out.trans (below_drewN _ _ _)))
   have q0 := hc2.out W1 (Below.refl _ _)
   have q1 : decide (0 ≤ h.no) = false := decide_eq_false h0
   clear hfin hB hc1 hr3 hc2
   go_wp2_with fail
   go_quiet (fail)
   go_wp2_with fail
   exact hend.out _

end Go.Proofs.YtnonfdcbnkdmcaaGreatDoor
namespace Go.Proofs.YtnonfdcbnkdmcaaGreatDoor
open Go.RowKit Go.Mem Go.Shelf
open Go.Vw (Hd Fk fitsB oddP oddI zeroH lastH)
open Go.Sto (Ent)

theorem build_zrH (W : World) : (Instr.build 36 #[]).run Tryz.prog W = .ok (.agg zrH.toArray) W := run_build W _ _ _ (by kernel_rfl)
theorem oddR_cons (x : Hd) (r : List Hd) (ds : List (List Nat)) : oddR (x :: r) ds = if oddP ds x then (x, true) else oddR r ds := by
 unfold oddR oddI
 rw [List.findIdx_cons]
 cases oddP ds x <;> simp
set_option maxRecDepth 20000 in
set_option maxHeartbeats 1000000 in
theorem r32last_any (a : Option Addr) (n c : Nat) (l : List Hd) (w : World) (H : HS w a n c l) :
 Calls Tryz.prog 52 #[.slice a n c] w (HdPost (lastH l) w) := by
 have hlen := H.rs.len
 have hnb := H.bd
 have n63 : (n : Int) ≤ 100000 := by omega
 have H' := Lib.hid H
 clear H
 obtain ⟨tb, htb⟩ : ∃ tb, Hid (w.heap.size = tb) := ⟨_, rfl⟩
 obtain ⟨W1, hW1⟩ : ∃ W1, W1 = w.alloc (.cells zrH.toArray 36) := ⟨_, rfl⟩
 have hbz' : Hid (Blk W1 tb 36 zrH) := by rw [hW1, ← htb.out]; exact Blk.new w _ zrH
 have hb1 : Hid (Below w.heap.size w W1) := by rw [hW1]; exact (Below.refl _ w).alloc (Nat.le_refl _) _
 have hzi : Hid ((Tryz.prog.info? 36).map (·.size) = some zrH.length) := sizeH
 obtain ⟨X, hX⟩ : ∃ X, X = HdPost (lastH l) w := ⟨_, rfl⟩
 rw [← hX]
 go_enter Tryz.func52, Tryz.ntmps52
 go_upto_region 1 with fail
 rw [htb.out]
 generalize hWq : w.alloc _ = Wq
 obtain rfl : W1 = Wq := by rw [← hWq, hW1]; rfl
 clear hWq hW1
 cases n with
 | zero =>
  have hR : lastH l = zeroH := by rw [List.eq_nil_of_length_eq_zero hlen]; rfl
  rw [hR] at hX
  have hst := storedB hbz'.out (vs := zrH) rfl
  have hth := Lib.hid (there_of hbz'.out (vs := zrH) rfl)
  have hone := Lib.hid (hdC_r okH0).one
  rw [hdC0] at hone
  have hfin : Hid (X (.returned (.agg zrH.toArray)) (W1.setCells tb 0 zrH)) := by rw [hX]; exact ⟨rfl, hst.below hb1.out hb1.out.size (by rw [htb.out]; omega)⟩
  have hblk := Lib.hid hst.blk
  have hbd := Lib.hid build_zrH
  clear hX hst hR hbz'
  generalize zrH = r at *
  go_wp2_with (first
   | (refine wpList_build_run (by rfl) 36 _ rfl #[] (by simp) (hbd.out _) ?_)
    | (refine wpList_store_mid (by rfl) 36 _ _ (by rfl) tb 0 r.toArray (by rfl) (by rfl) hth.out (by rw [List.size_toArray]; exact hzi.out) (by simpa using hone.out) ?_))
  exact ret_cell (fn := Tryz.f52) (p := 2) rfl hblk.out Tryz.underlying36 rfl hzi.out rfl rfl hfin.out
 | succ k =>
  obtain ⟨h, he⟩ : ∃ h, l[k]? = some h := ⟨_, List.getElem?_eq_getElem (by omega)⟩
  have hR := lastH_get hlen he
  rw [hR] at hX
  obtain ⟨b, off, rfl, hbl, ok, hrg⟩ := (H'.out.below hb1.out).get he
  have hri := infoHd ok
  have hrg' := Lib.hid hrg
  have hst := storedB hbz'.out (vs := hdC h) (by rw [hdC_len ok]; rfl)
  have hth := Lib.hid (there_of hbz'.out (vs := hdC h) (by rw [hdC_len ok]; rfl))
  have hone := Lib.hid (hdC_r ok).one
  have hfin : Hid (X (.returned (.agg (hdC h).toArray)) (W1.setCells tb 0 (hdC h))) := by rw [hX]; exact ⟨rfl, hst.below hb1.out hb1.out.size (by rw [htb.out]; omega)⟩
  have hblk := Lib.hid hst.blk
  have hk1 : ((k + 1 : Nat) : Int) = (k : Int) + 1 := by omega
  have hk2 : (k : Int) + 1 - 1 = (k : Int) := by omega
  have k0 : (0 : Int) ≤ (k : Int) := by omega
  have k1 : (k : Int) < (k : Int) + 1 := by omega
  have k3 : (k : Int) ≤ 99999 := by omega
  have kz : ((k : Int) + 1 == 0) = false := by rw [beq_eq_false_iff_ne]; omega
  have kz2 : decide ((k : Int) + 1 = 0) = false := decide_eq_false (by omega)
  rw [hk1] at n63
  clear hX hst hR he hrg ok hlen hnb hbz'
  generalize hdC h = r at *
  go_wp2_with (first
   | (refine wpList_load_g (by rfl) 36 _ (by rfl) b (off + k * 37) (by rfl) r _ hrg'.out Tryz.underlying36 (by rfl) hri.out ?_)
    | (refine wpList_store_mid (by rfl) 36 _ _ (by rfl) tb 0 r.toArray (by rfl) (by rfl) hth.out (by rw [List.size_toArray]; exact hri.out) (by simpa using hone.out) ?_))
  exact ret_cell (fn := Tryz.f52) (p := 2) rfl hblk.out Tryz.underlying36 rfl hri.out rfl rfl hfin.out

set_option maxRecDepth 20000 in
set_option maxHeartbeats 2000000 in
theorem r32odd_any (a : Option Addr) (n c : Nat) (l : List Hd) (da : Option Addr) (dn dc : Nat) (ds : List (List Nat)) (w : World) (H : HS w a n c l) (HD : DS w da dn dc ds) (hbd : dn ≤ 100000) :
 Calls Tryz.prog 51 #[.slice a n c, .slice da dn dc] w (OddPost (oddR l ds) w) := by
 have hlen := H.rs.len
 have hnb := H.bd
 have hdl := HD.len
 have n63 : (n : Int) ≤ 100000 := by omega
 have d63 : (dn : Int) ≤ 100000 := by omega
 have H' := Lib.hid H
 have HD' := Lib.hid HD
 clear H HD
 obtain ⟨tb, htb⟩ : ∃ tb, Hid (w.heap.size = tb) := ⟨_, rfl⟩
 obtain ⟨W1, hW1⟩ : ∃ W1, W1 = w.alloc (.cells zrH.toArray 36) := ⟨_, rfl⟩
 have hbz : Hid (Blk W1 tb 36 zrH) := by rw [hW1, ← htb.out]; exact Blk.new w _ zrH
 have hb1 : Hid (Below w.heap.size w W1) := by rw [hW1]; exact (Below.refl _ w).alloc (Nat.le_refl _) _
 have hzi : Hid ((Tryz.prog.info? 36).map (·.size) = some zrH.length) := sizeH
 obtain ⟨X, hX⟩ : ∃ X, X = OddPost (oddR l ds) w := ⟨_, rfl⟩
 have hfin : Hid (∀ h b W, oddR l ds = (h, b) → Below w.heap.size w W → X (.returned (.tuple #[.agg (hdC h).toArray, .bool b])) W) := fun h b W e hb => by rw [hX, e]; exact ⟨rfl, hb⟩
 rw [← hX]
 clear hX
 have hfit := Lib.hid (fun x ok W (hW : Below w.heap.size w W) => r32fits_any x ok da dn dc ds W (HD'.out.below hW) hbd)
 have hu := Tryz.underlying36
 go_enter Tryz.func51, Tryz.ntmps51
 go_upto_region 1 with fail
 rw [htb.out]
 generalize hWq : w.alloc _ = Wq
 obtain rfl : W1 = Wq := by rw [← hWq, hW1]; rfl
 clear hWq hW1
 go_wp2_with fail
 go_loopw [6] (fun i wr => ∃ k : Nat, k ≤ n ∧ i = .int .i64 k ∧ Hid (Blk wr tb 36 zrH) ∧ Hid (Below w.heap.size w wr) ∧ Hid (oddR l ds = oddR (l.drop k) ds)) (fun i _ => n - (intOf i).toNat)
 case atStart => exact ⟨0, Nat.zero_le _, rfl, hbz, hb1, rfl⟩
 case round =>
  obtain ⟨k, hk, rfl, hbz2, hbr, hod⟩ := hrel
  clear hbz hb1
  by_cases hlt : k < n
  · obtain ⟨x, hx⟩ : ∃ x, l[k]? = some x := ⟨_, List.getElem?_eq_getElem (by omega)⟩
    have hdr : l.drop k = x :: l.drop (k + 1) := by rw [List.drop_eq_getElem_cons (by omega), (List.getElem?_eq_some_iff.1 hx).2]
    obtain ⟨b, off, rfl, hbl, ok, hrg⟩ := (H'.out.below hbr.out).get hx
    have hod' := hod.out
    rw [hdr, oddR_cons] at hod'
    have hri := infoHd ok
    have hrg' := Lib.hid hrg
    have hc2 : wr.cell? ⟨b, off + k * 37 + 2, none⟩ = some (.int .i64 x.no) := hrg 2 _ rfl
    have hone := Lib.hid (hdC_r ok).one
    have hlx := hdC_len ok
    have hft := Lib.hid (hfit.out x ok wr hbr.out)
    have k0 : (0 : Int) ≤ (k : Int) := by omega
    have k1 : (k : Int) < (n : Int) := by omega
    clear hx hdr hod hrg
    by_cases hle : x.no ≤ (dn : Int)
    · have q1 : decide (x.no ≤ (dn : Int)) = true := decide_eq_true hle
      have hop : oddP ds x = !fitsB x ds := by unfold oddP; rw [hdl, q1, Bool.true_and]
      rw [hop] at hod'
      generalize fitsB x ds = B at *
      have hodh := Lib.hid hod'
      clear hop hod' hle hlen hnb hdl
      go_wp2_with (first
       | (refine wpList_load_g (by rfl) 36 (.tmp 24) (by rfl) b (off + k * 37) (by rfl) (hdC x) _ hrg'.out hu (by rfl) hri ?_))
      refine hft.out.mono ?_
      rintro e W3 ⟨rfl, hb3⟩
      have hbz3 := Lib.hid (hbz2.out.below hb3 hbz2.out.lt)
      have hb3w := Lib.hid (hbr.out.trans (hb3.mono hbr.out.size))
      cases B with
      | true =>
       have hod2 : Hid (oddR l ds = oddR (l.drop (k + 1)) ds) := by rw [hodh.out]; rfl
       clear hodh hft hc2
       go_wp2_with fail
       go_roundw
       case rel => exact ⟨k + 1, by omega, by go_num, hbz3, hb3w, hod2⟩
       case measure => simp [intOf]; omega
      | false =>
       have hst := storedB hbz3.out (vs := hdC x) (by rw [hlx]; rfl)
       have hth := Lib.hid (there_of hbz3.out (vs := hdC x) (by rw [hlx]; rfl))
       have hend := Lib.hid (hfin.out x true _ (by rw [hodh.out]; rfl) (hst.below hb3w.out hb3w.out.size (by have := htb.out; omega)))
       have hblk := Lib.hid hst.blk
       have hrg3 : Hid (W3.rangeAt b (off + k * 37) (hdC x)) := fun j v hv => (hb3.cell (p := ⟨b, _, none⟩) hbl).trans (hrg'.out j v hv)
       clear hodh hft hfin hst hb3 hc2
       generalize hdC x = r at *
       go_wp2_with (first
        | (refine wpList_load_g (by rfl) 36 (.tmp 32) (by rfl) b (off + k * 37) (by rfl) r _ hrg3.out hu (by rfl) hri ?_)
         | (refine wpList_store_mid (by rfl) 36 _ _ (by rfl) tb 0 r.toArray (by rfl) (by rfl) hth.out (by rw [List.size_toArray]; exact hri) (by simpa using hone.out) ?_))
       exact ret_cell_tmp (fn := Tryz.f51) (p := 4) (u := 5) rfl hblk.out Tryz.underlying36 rfl hri rfl rfl rfl hend.out
    · have q1 : decide (x.no ≤ (dn : Int)) = false := decide_eq_false hle
      have hop : oddP ds x = false := by unfold oddP; rw [hdl, q1, Bool.false_and]
      rw [hop] at hod'
      have hod2 : Hid (oddR l ds = oddR (l.drop (k + 1)) ds) := by rw [hod']; rfl
      clear hop hod' hle hft hlen hnb hdl
      go_wp2_with fail
      go_roundw
      case rel => exact ⟨k + 1, by omega, by go_num, hbz2, hbr, hod2⟩
      case measure => simp [intOf]; omega
  · obtain rfl : k = n := by omega
    have hst := storedB hbz2.out (vs := zrH) rfl
    have hth := Lib.hid (there_of hbz2.out (vs := zrH) rfl)
    have hone := Lib.hid (hdC_r okH0).one
    have hend := Lib.hid (hfin.out zeroH false _ (by rw [hod.out, List.drop_of_length_le (by omega)]; rfl) (hst.below hbr.out hbr.out.size (by have := htb.out; omega)))
    have hblk := Lib.hid hst.blk
    have hbd := Lib.hid build_zrH
    rw [hdC0] at hone hend
    clear hod hst hfin hbz2
    generalize zrH = r at *
    go_wp2_with (first
     | (refine wpList_build_run (by rfl) 36 _ rfl #[] (by simp) (hbd.out _) ?_)
      | (refine wpList_store_mid (by rfl) 36 _ _ (by rfl) tb 0 r.toArray (by rfl) (by rfl) hth.out (by rw [List.size_toArray]; exact hzi.out) (by simpa using hone.out) ?_))
    exact ret_cell_tmp (fn := Tryz.f51) (p := 4) (u := 5) rfl hblk.out Tryz.underlying36 rfl hzi.out rfl rfl rfl hend.out

set_option maxRecDepth 20000 in
set_option maxHeartbeats 2000000 in
theorem r32isEntry_any (e : Ent) (ho : OkE e) (da : Option Addr) (dn dc : Nat) (w : World) (H : BW w da dn dc e.data) :
 Calls Tryz.prog 65 #[.agg (entC e da dn dc).toArray] w (RetBo (Vw.entOk e) w) := by
 have H' := Lib.hid H
 have hdl := H.len
 clear H
 obtain ⟨X, hX⟩ : ∃ X, X = RetBo (Vw.entOk e) w := ⟨_, rfl⟩
 have hfin : Hid (∀ v W, Vw.entOk e = v → Below w.heap.size w W → X (.returned (.bool v)) W) := fun v W hv h => by rw [hX, hv]; exact ⟨rfl, h⟩
 rw [← hX]
 clear hX
 obtain ⟨g, hg⟩ : ∃ g, Hid (w.heap.size = g) := ⟨_, rfl⟩
 have ho' := Lib.hid ho
 have hdn := ho.data
 have hdig : Dig e.dig := ⟨ho.dig, ho.lt⟩
 clear ho
 go_enter Tryz.func65, Tryz.ntmps65
 go_upto_region 1 with fail
 rw [hg.out]
 generalize hW : World.alloc w _ = W2
 have hB : Hid (Blk W2 g 75 (entC e da dn dc)) := by rw [← hW, ← hg.out]; exact Blk.new w _ _
 have hb2 : Hid (Below w.heap.size w W2) := by rw [← hW]; exact (Below.refl _ w).alloc (Nat.le_refl _) _
 clear hW
 have hE : Hid (∀ wz, Below W2.heap.size W2 wz → EntB wz g e da dn dc) := fun wz h => EntB.of (hB.out.below h hB.out.lt) ho'.out.dig
 have ek := (hE.out W2 (Below.refl _ _)).kind
 have ed := (hE.out W2 (Below.refl _ _)).data
 have eg := (hE.out W2 (Below.refl _ _)).gone
 by_cases h1 : 1 ≤ e.kind
 · by_cases h7 : e.kind ≤ 7
   · have q1 : decide (e.kind < 1) = false := decide_eq_false (by omega)
     have q2 : decide (7 < e.kind) = false := decide_eq_false (by omega)
     have hkb : Sto.kindB e.kind = true := by unfold Sto.kindB; exact decide_eq_true ⟨h1, h7⟩
     cases hgn : e.gone with
     | true =>
      rw [hgn] at eg
      by_cases hk4 : e.kind = 4
      · have p1 : (e.kind == 4) = true := by simpa using hk4
        have p2 : decide (e.kind = 4) = true := decide_eq_true hk4
        by_cases hd0 : dn = 0
        · have p3 : ((dn : Int) == 0) = true := by simpa using hd0
          have p4 : decide ((dn : Int) = 0) = true := decide_eq_true (by omega)
          have p5 : (dn == 0) = true := by simpa using hd0
          have p6 : decide (dn = 0) = true := decide_eq_true hd0
          have hend := Lib.hid (hfin.out true W2 (by unfold Vw.entOk; rw [hkb, hgn, p2, hdl, p6]; rfl) hb2.out)
          clear hdl hdn hgn hk4 hd0 h1 h7 hkb hdig hfin
          go_wp2_with fail
          exact hend.out
        · have p3 : ((dn : Int) == 0) = false := by simpa using hd0
          have p4 : decide ((dn : Int) = 0) = false := decide_eq_false (by omega)
          have p5 : (dn == 0) = false := by simpa using hd0
          have p6 : decide (dn = 0) = false := decide_eq_false hd0
          have hend := Lib.hid (hfin.out false W2 (by simp [Vw.entOk, hgn, hk4, hdl, hd0]) hb2.out)
          clear hdl hdn hgn hk4 hd0 h1 h7 hkb hdig hfin
          go_wp2_with fail
          exact hend.out
      · have p1 : (e.kind == 4) = false := by simpa using hk4
        have p2 : decide (e.kind = 4) = false := decide_eq_false hk4
        have hend := Lib.hid (hfin.out false W2 (by simp [Vw.entOk, hkb, hgn, hk4]) hb2.out)
        clear hdl hdn hgn hk4 h1 h7 hkb hdig hfin
        go_wp2_with fail
        exact hend.out
     | false =>
      rw [hgn] at eg
      have hdd := Lib.hid (fun W (hW : Below w.heap.size w W) => r30digest_any e.kind ⟨ho'.out.lo, ho'.out.hi⟩ da dn dc e.data W (H'.out.below hW) (by omega))
      obtain ⟨q, hq⟩ : ∃ q, Hid (decide (e.dig = entryD e.kind e.data) = q) := ⟨_, rfl⟩
      have hv : Hid (Vw.entOk e = q) := by show _ = _; unfold Vw.entOk; rw [hkb, hgn, ← hq.out]; rfl
      have hD32 : Dig (entryD e.kind e.data) := ⟨Sha.tagged_length _ _, Sha.tagged_lt _ _⟩
      generalize entryD e.kind e.data = D at *
      have heq := Lib.hid (fun W => eq_dig hdig hD32 W)
      rw [hq.out] at heq
      have hdi : Hid ((Tryz.prog.info? 32).map (·.size) = some (bv e.dig).length) := by show _ = _; rw [bv_length, hdig.1]; exact size35
      have hdr : Hid (∀ wz, Below W2.heap.size W2 wz → wz.rangeAt g 1 (bv e.dig)) := fun wz h => (hE.out wz h).dig
      have hkd : Hid (∀ wz, Below W2.heap.size W2 wz → wz.cell? ⟨g, 0, none⟩ = some (.int .i64 e.kind)) := fun wz h => (hE.out wz h).kind
      have hdt : Hid (∀ wz, Below W2.heap.size W2 wz → wz.cell? ⟨g, 33, none⟩ = some (.slice da dn dc)) := fun wz h => (hE.out wz h).data
      clear hdl hdn hgn h1 h7 hkb hdig hD32 hq hE hB
      go_upto_region 5 with fail
      clear ek ed eg
      refine wp_region_held_drew (S := fun wz => Below W2.heap.size W2 wz) (by kernel_rfl) ((Below.refl _ W2).drew) (fun hHeld => ?_)
      generalize W2.drew = Wd at *
      refine tQ 0 rfl hHeld ?_
      refine tY 1 rfl g 1 (bv e.dig) (fun wz h => hdr.out wz h) Tryz.underlying32 hdi.out hHeld ?_
      refine tQ 2 rfl hHeld ?_
      refine tX 3 rfl (fun wz hSw => hkd.out wz hSw) hHeld ?_
      refine tQ 4 rfl hHeld ?_
      refine tX 5 rfl (fun wz hSw => hdt.out wz hSw) hHeld ?_
      refine tO 6 rfl (fun K hK => ?_)
      go_simp
      go_at_call 104
      refine (hdd.out _ (hb2.out.trans (hHeld.mono hb2.out.size))).mono ?_
      rintro e3 W3 ⟨rfl, hb3⟩
      refine hK.out _ _ (hHeld.trans (hb3.mono hHeld.size)) (fun hHeld2 => ?_)
      have hHeld3 := hHeld.trans (hb3.mono hHeld.size)
      clear hHeld hHeld2 hb3
      have hHeld := hHeld3
      clear hHeld3
      clear hK K
      try simp only [Act.put, sA, s0, s1]
      refine tX 7 rfl (fun wz hSw => heq.out) hHeld ?_
      refine tQ 8 rfl hHeld ?_
      refine wpAnyH_done (by kernel_rfl) ?_ _
      have hend := Lib.hid (hfin.out q _ hv.out (hb2.out.trans (hHeld.mono hb2.out.size)))
      clear hHeld
      go_wp2_with fail
      exact hend.out
   · have q1 : decide (e.kind < 1) = false := decide_eq_false (by omega)
     have q2 : decide (7 < e.kind) = true := decide_eq_true (by omega)
     have hend := Lib.hid (hfin.out false W2 (by unfold Vw.entOk Sto.kindB; rw [decide_eq_false (by omega), Bool.false_and]) hb2.out)
     clear hdl hdn h1 h7 hdig hfin
     go_wp2_with fail
     exact hend.out
 · have q1 : decide (e.kind < 1) = true := decide_eq_true (by omega)
   have hend := Lib.hid (hfin.out false W2 (by unfold Vw.entOk Sto.kindB; rw [decide_eq_false (by omega), Bool.false_and]) hb2.out)
   clear hdl hdn h1 hdig hfin
   go_wp2_with fail
   exact hend.out
end Go.Proofs.YtnonfdcbnkdmcaaGreatDoor

