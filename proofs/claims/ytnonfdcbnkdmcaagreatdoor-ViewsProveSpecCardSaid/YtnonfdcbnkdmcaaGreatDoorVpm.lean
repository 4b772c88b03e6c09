/- the reference 32: Fits the reference 32: Prove a proof (api.Fork) as an argument ViewsProveSpec: for every key and proof the law returns true and its arguments read as before; the package variables digest.start and digest.numbers are as the program's text lays them (the tied card); no other condition. -/
import Derived.Test.YtnonfdcbnkdmcaaGreatDoorAl
import Derived.Test.YtnonfdcbnkdmcaaGreatDoorRsH
import Derived.Test.YtnonfdcbnkdmcaaGreatDoorVwC
import Derived.Test.YtnonfdcbnkdmcaaGreatDoorKey
import Derived.Test.YtnonfdcbnkdmcaaGreatDoorVwD
import Derived.Test.YtnonfdcbnkdmcaaGreatDoorVwE
import Derived.Test.YtnonfdcbnkdmcaaGreatDoorSnq
import Derived.Test.YtnonfdcbnkdmcaaGreatDoorCards
import Derived.Test.YtnonfdcbnkdmcaaGreatDoorTie
import Derived.SevenTiedAt
import Derived.Deep.DeepHandedRow
import Derived.Deep.DeepWitnessRowRef
namespace Go.Proofs.YtnonfdcbnkdmcaaGreatDoor
open Go.RowKit Go.Mem Go.Shelf
open Go.Vw (Hd Fk fitsB verH proveV proveB)

set_option maxRecDepth 20000 in
set_option maxHeartbeats 2000000 in
theorem r32fits_any (h : Hd) (ok : OkH h) (a : Option Addr) (n c : Nat) (ds : List (List Nat)) (w : World) (H : DS w a n c ds) (hbd : n ≤ 100000) :
 Calls Tryz.prog 55 #[.agg (hdC h).toArray, .slice a n c] w (RetBo (fitsB h ds) w) := by
 have H' := Lib.hid H
 have hlen := Lib.hid H.len
 have n63 : (n : Int) ≤ 100000 := by omega
 clear H
 obtain ⟨X, hX⟩ : ∃ X, X = RetBo (fitsB h ds) w := ⟨_, rfl⟩
 have hfin : Hid (∀ v W, fitsB h ds = v → Below w.heap.size w W → X (.returned (.bool v)) W) := fun v W hv h => by rw [hX, hv]; exact ⟨rfl, h⟩
 rw [← hX]
 clear hX
 obtain ⟨tb, htb⟩ : ∃ tb, Hid (w.heap.size = tb) := ⟨_, rfl⟩
 have hR := hdC_r ok
 go_enter Tryz.func55, Tryz.ntmps55
 go_upto_region 1 with fail
 rw [htb.out]
 generalize hW : World.alloc w _ = W1
 have hB : Hid (Blk W1 tb 36 (hdC h)) := by rw [← hW, ← htb.out]; exact Blk.new w _ _
 have hb1 : Hid (Below w.heap.size w W1) := by rw [← hW]; exact (Below.refl _ w).alloc (Nat.le_refl _) _
 clear hW
 have hc1 : Hid (∀ wz, Below W1.heap.size W1 wz → wz.cell? ⟨tb, 1, none⟩ = some (.int .i64 h.fo)) := fun wz hz => (hB.out.below hz hB.out.lt).at_ (i := 1) rfl
 have hc2 : Hid (∀ wz, Below W1.heap.size W1 wz → wz.cell? ⟨tb, 2, none⟩ = some (.int .i64 h.no)) := fun wz hz => (hB.out.below hz hB.out.lt).at_ (i := 2) rfl
 have hr3 : Hid (∀ wz, Below W1.heap.size W1 wz → wz.rangeAt tb 3 (bv h.ch)) := fun wz hz j v hv => (hB.out.below hz hB.out.lt).at_ (i := 3 + j) (by
  show (headC h.st h.fo h.no h.ch h.R h.S)[3 + j]? = some v
  unfold headC
  rw [List.getElem?_append_right (by simp)]
  have hl := (List.getElem?_eq_some_iff.1 hv).1
  rw [show 3 + j - [Value.int .i64 h.st, .int .i64 h.fo, .int .i64 h.no].length = j by simp, List.getElem?_append_left hl]
  exact hv)
 clear hR
 by_cases h0 : 0 ≤ h.no
 · by_cases h1 : h.no ≤ (n : Int)
   · obtain ⟨k, hk⟩ : ∃ k : Nat, h.no = (k : Int) := ⟨h.no.toNat, by omega⟩
     have hkn : k ≤ n := by omega
     obtain ⟨q, hq⟩ : ∃ q, Hid (decide (chainD h.fo (ds.take k) = h.ch) = q) := ⟨_, rfl⟩
     have hv : Hid (fitsB h ds = q) := by
      show _ = _
      unfold fitsB
      rw [hk, Int.toNat_natCast, hq.out, decide_eq_true (by have := hlen.out; constructor <;> omega), Bool.true_and]
     have hsl := Lib.hid (fun W => dslice_h H'.out hkn W)
     have hch := Lib.hid (fun W (hW : Below w.heap.size w W) => r30chain_any h.fo ok.fo a k c (ds.take k) W ((H'.out.below hW).take hkn))
     have hC32 : Dig (chainD h.fo (ds.take k)) := by obtain ⟨x, y⟩ := chain_len h.fo (ds.take k); exact ⟨x, y⟩
     have hch32 : Dig h.ch := ⟨ok.ch.1, ok.ch.2⟩
     have heq := Lib.hid (fun W => eq_dig hC32 hch32 W)
     have hdi : Hid ((Tryz.prog.info? 32).map (·.size) = some (bv h.ch).length) := by show _ = _; rw [bv_length, hch32.1]; exact size35
     rw [hq.out] at heq
     rw [hk] at hc2 h0 h1
     clear hC32 hch32 hq hB
     generalize chainD h.fo (ds.take k) = C at *
     clear hk
     refine wp_region_held_drew (S := fun wz => Below W1.heap.size W1 wz) (by kernel_rfl) ((Below.refl _ W1).drew) (fun hHeld => ?_)
     generalize W1.drew = Wd at *
     refine tQ 0 rfl hHeld ?_
     refine tX 1 rfl (fun wz hSw => hc2.out wz hSw) hHeld ?_
     refine tQ 2 rfl hHeld ?_
     refine tQ 3 rfl hHeld ?_
     refine tQ 4 rfl hHeld ?_
     refine tX 5 rfl (fun wz hSw => hc2.out wz hSw) hHeld ?_
     refine tQ 6 rfl hHeld ?_
     refine tQ 7 rfl hHeld ?_
     refine tQ 8 rfl hHeld ?_
     refine tQ 9 rfl hHeld ?_
     refine tQ 10 rfl hHeld ?_
     refine tQ 11 rfl hHeld ?_
     refine tX 12 rfl (fun wz hSw => hc1.out wz hSw) hHeld ?_
     refine tQ 13 rfl hHeld ?_
     refine tQ 14 rfl hHeld ?_
     refine tX 15 rfl (fun wz hSw => hc2.out wz hSw) hHeld ?_
     refine tX 16 rfl (fun wz hSw => hsl.out) hHeld ?_
     refine tQ 18 rfl hHeld ?_
     refine tY 19 rfl tb 3 (bv h.ch) (fun wz h => hr3.out wz h) Tryz.underlying32 hdi.out hHeld ?_
     refine tO 17 rfl (fun K hK => ?_)
     go_simp
     go_at_call 88
     refine (hch.out _ (hb1.out.trans (hHeld.mono hb1.out.size))).mono ?_
     rintro e W3 ⟨rfl, hb3⟩
     refine hK.out _ _ (hHeld.trans (hb3.mono hHeld.size)) (fun hHeld2 => ?_)
     have hHeld3 := hHeld.trans (hb3.mono hHeld.size)
     clear hHeld hHeld2 hb3
     have hHeld := hHeld3
     clear hHeld3
     clear hK K
     try simp only [Act.put, sA, s0, s1]
     refine tX 20 rfl (fun wz hSw => heq.out) hHeld ?_
     refine tQ 21 rfl hHeld ?_
     refine tQ 22 rfl hHeld ?_
     refine wpAnyH_done (by kernel_rfl) ?_ _
     have hend := Lib.hid (hfin.out q _ hv.out (hb1.out.trans (hHeld.mono hb1.out.size)))
     clear hHeld
     go_wp2_with fail
     exact hend.out
   · have hend := Lib.hid (fun m => hfin.out false (W1.drewN m) (by unfold fitsB; rw [decide_eq_false (by rw [hlen.out]; omega), Bool.false_and]) (hb1.out.trans (below_drewN _ _ _)))
     have q0 := hc2.out W1 (Below.refl _ _)
     have q1 : decide (0 ≤ h.no) = true := decide_eq_true h0
     have q2 : decide (h.no ≤ (n : Int)) = false := decide_eq_false h1
     clear hfin hB hc1 hr3 hc2
     go_wp2_with fail
     go_quiet (fail)
     go_wp2_with fail
     exact hend.out _
 · have hend := Lib.hid (fun m => hfin.out false (W1.drewN m) (by unfold fitsB; rw [decide_eq_false (by omega), Bool.false_and]) (hb1.out.trans (below_drewN _ _ _)))
   have q0 := hc2.out W1 (Below.refl _ _)
   have q1 : decide (0 ≤ h.no) = false := decide_eq_false h0
   clear hfin hB hc1 hr3 hc2
   go_wp2_with fail
   go_quiet (fail)
   go_wp2_with fail
   exact hend.out _

end Go.Proofs.YtnonfdcbnkdmcaaGreatDoor
namespace Go.Proofs.YtnonfdcbnkdmcaaGreatDoor
open Go.RowKit Go.Mem Go.Shelf
open Go.Vw (Hd Fk fitsB verH proveV proveB)

theorem ver32_any (pub : Int) (h : Hd) (hp : I64 pub) (ok : OkH h) (w : World) : Calls Tryz.prog 54 #[.int .i64 pub, .agg (hdC h).toArray] w (RetBo (verH pub h) w) :=
 r30verify_any pub h.st h.fo h.no h.R h.S h.ch hp ok.st ok.fo ok.no ok.R ok.ch w

set_option maxRecDepth 100000 in
set_option maxHeartbeats 8000000 in
theorem r32prove_any (pub : Int) (hp : I64 pub) (f : Fk) (ok : OkF f) (fa : Option Addr) (fn fc : Nat) (w : World) (H : DS w fa fn fc f.ds) (hbd : fn ≤ 100000) :
 Calls Tryz.prog 33 #[.int .i64 pub, .agg (forkC f fa fn fc).toArray] w (RetI (proveV pub f) w) := by
 have H' := Lib.hid H
 have hlen := H.len
 have f63 : (fn : Int) ≤ 100000 := by omega
 clear H
 obtain ⟨tb, htb⟩ : ∃ tb, Hid (w.heap.size = tb) := ⟨_, rfl⟩
 obtain ⟨X, hX⟩ : ∃ X, X = RetI (proveV pub f) w := ⟨_, rfl⟩
 have hret : Hid (∀ W n, proveV pub f = n → Below w.heap.size w W → X (.returned (.int .i64 n)) W) := fun W n hn h => by rw [hX, hn]; exact ⟨rfl, h⟩
 rw [← hX]
 clear hX
 have hia := infoHd ok.a
 have hib := infoHd ok.b
 have hu := Tryz.underlying36
 have h74 := Lib.hid (forkC_74 ok fa fn fc)
 have hva := Lib.hid (fun W => ver32_any pub f.a hp ok.a W)
 have hvb := Lib.hid (fun W => ver32_any pub f.b hp ok.b W)
 have hfa := Lib.hid (fun W (hW : Below w.heap.size w W) => r32fits_any f.a ok.a fa fn fc f.ds W (H'.out.below hW) hbd)
 have hfb := Lib.hid (fun W (hW : Below w.heap.size w W) => r32fits_any f.b ok.b fa fn fc f.ds W (H'.out.below hW) hbd)
 have hP : Hid (proveV pub f = if (verH pub f.a && verH pub f.b && decide (f.a.st = f.b.st) && decide (f.a.fo = f.b.fo) && decide (f.a.no ≤ f.b.no) && decide (f.b.no = (fn : Int)) && fitsB f.b f.ds && !fitsB f.a f.ds) then 0 else 321) := by show _ = _; rw [← hlen]; rfl
 generalize proveV pub f = PV at *
 generalize verH pub f.a = va at *
 generalize verH pub f.b = vb at *
 generalize fitsB f.a f.ds = xa at *
 generalize fitsB f.b f.ds = xb at *
 go_enter Tryz.func33, Tryz.ntmps33
 go_upto_region 1 with fail
 rw [htb.out]
 generalize hW : World.alloc w _ = W1
 have hBq : Hid (Blk W1 tb 53 (forkC f fa fn fc)) := by rw [← hW, ← htb.out]; exact Blk.new w _ _
 have hbw : Hid (Below w.heap.size w W1) := by rw [← hW]; exact (Below.refl _ w).alloc (Nat.le_refl _) _
 clear hW
 have c0 := hBq.out.at_ (i := 0) (show (forkC f fa fn fc)[0]? = some (.int .i64 f.a.st) from rfl)
 have c1 := hBq.out.at_ (i := 1) (show (forkC f fa fn fc)[1]? = some (.int .i64 f.a.fo) from rfl)
 have c2 := hBq.out.at_ (i := 2) (show (forkC f fa fn fc)[2]? = some (.int .i64 f.a.no) from rfl)
 have d0 := forkC_b ok hBq.out 0 (.int .i64 f.b.st) rfl
 have d1 := forkC_b ok hBq.out 1 (.int .i64 f.b.fo) rfl
 have d2 := forkC_b ok hBq.out 2 (.int .i64 f.b.no) rfl
 simp only [Nat.reduceAdd] at d0 d1 d2
 have e0 := hBq.out.at_ (i := 74) h74.out
 have rA := forkC_a ok hBq.out
 have rB := forkC_b ok hBq.out
 go_wp2_with (first | (refine wpList_load_mid (by rfl) 36 (.tmp 6) (by rfl) tb 0 (by rfl) (hdC f.a) _ rA hu (by rfl) hia ?_))
 refine (hva.out W1).mono ?_
 rintro e W2 ⟨rfl, hb⟩
 replace hBq := Lib.hid (hBq.out.below hb hBq.out.lt)
 replace hbw := Lib.hid (hbw.out.trans (hb.mono hbw.out.size))
 clear hb
 clear c0 c1 c2 d0 d1 d2 e0 rA rB
 clear hva
 cases va with
 | false =>
  have hend := Lib.hid (hret.out _ 321 (by rw [hP.out]; simp) hbw.out)
  clear hret
  go_wp2_with fail
  exact hend.out
 | true =>
  have c0 := hBq.out.at_ (i := 0) (show (forkC f fa fn fc)[0]? = some (.int .i64 f.a.st) from rfl)
  have c1 := hBq.out.at_ (i := 1) (show (forkC f fa fn fc)[1]? = some (.int .i64 f.a.fo) from rfl)
  have c2 := hBq.out.at_ (i := 2) (show (forkC f fa fn fc)[2]? = some (.int .i64 f.a.no) from rfl)
  have d0 := forkC_b ok hBq.out 0 (.int .i64 f.b.st) rfl
  have d1 := forkC_b ok hBq.out 1 (.int .i64 f.b.fo) rfl
  have d2 := forkC_b ok hBq.out 2 (.int .i64 f.b.no) rfl
  simp only [Nat.reduceAdd] at d0 d1 d2
  have e0 := hBq.out.at_ (i := 74) h74.out
  have rA := forkC_a ok hBq.out
  have rB := forkC_b ok hBq.out
  go_wp2_with (first | (refine wpList_load_g (by rfl) 36 (.tmp 12) (by rfl) tb 37 (by rfl) (hdC f.b) _ rB hu (by rfl) hib ?_))
  refine (hvb.out W2).mono ?_
  rintro e W3 ⟨rfl, hb⟩
  replace hBq := Lib.hid (hBq.out.below hb hBq.out.lt)
  replace hbw := Lib.hid (hbw.out.trans (hb.mono hbw.out.size))
  clear hb
  clear c0 c1 c2 d0 d1 d2 e0 rA rB
  clear hvb
  cases vb with
  | false =>
   have hend := Lib.hid (hret.out _ 321 (by rw [hP.out]; simp) hbw.out)
   clear hret
   go_wp2_with fail
   exact hend.out
  | true =>
   have c0 := hBq.out.at_ (i := 0) (show (forkC f fa fn fc)[0]? = some (.int .i64 f.a.st) from rfl)
   have c1 := hBq.out.at_ (i := 1) (show (forkC f fa fn fc)[1]? = some (.int .i64 f.a.fo) from rfl)
   have c2 := hBq.out.at_ (i := 2) (show (forkC f fa fn fc)[2]? = some (.int .i64 f.a.no) from rfl)
   have d0 := forkC_b ok hBq.out 0 (.int .i64 f.b.st) rfl
   have d1 := forkC_b ok hBq.out 1 (.int .i64 f.b.fo) rfl
   have d2 := forkC_b ok hBq.out 2 (.int .i64 f.b.no) rfl
   simp only [Nat.reduceAdd] at d0 d1 d2
   have e0 := hBq.out.at_ (i := 74) h74.out
   have rA := forkC_a ok hBq.out
   have rB := forkC_b ok hBq.out
   by_cases h1 : f.a.st = f.b.st
   · have p1 : decide (f.a.st = f.b.st) = true := decide_eq_true h1
     have q1 : (f.a.st != f.b.st) = false := by simpa using h1
     by_cases h2 : f.a.fo = f.b.fo
     · have p2 : decide (f.a.fo = f.b.fo) = true := decide_eq_true h2
       have q2 : (f.a.fo != f.b.fo) = false := by simpa using h2
       by_cases h3 : f.a.no ≤ f.b.no
       · have p3 : decide (f.a.no ≤ f.b.no) = true := decide_eq_true h3
         have q3 : decide (f.b.no < f.a.no) = false := decide_eq_false (by omega)
         by_cases h4 : f.b.no = (fn : Int)
         · have p4 : decide (f.b.no = (fn : Int)) = true := decide_eq_true h4
           have q4 : ((fn : Int) != f.b.no) = false := by rw [h4]; simp
           rw [p1, p2, p3, p4] at hP
           clear h1 h2 h3 h4 p1 p2 p3 p4
           go_wp2_with (first | (refine wpList_load_g (by rfl) 36 (.tmp 54) (by rfl) tb 37 (by rfl) (hdC f.b) _ rB hu (by rfl) hib ?_))
           refine (hfb.out W3 hbw.out).mono ?_
           rintro e W4 ⟨rfl, hb⟩
           replace hBq := Lib.hid (hBq.out.below hb hBq.out.lt)
           replace hbw := Lib.hid (hbw.out.trans (hb.mono hbw.out.size))
           clear hb
           clear c0 c1 c2 d0 d1 d2 e0 rA rB
           clear hfb q1 q2 q3 q4
           cases xb with
           | false =>
            have hend := Lib.hid (hret.out _ 321 (by rw [hP.out]; simp) hbw.out)
            clear hret
            go_wp2_with fail
            exact hend.out
           | true =>
            have c0 := hBq.out.at_ (i := 0) (show (forkC f fa fn fc)[0]? = some (.int .i64 f.a.st) from rfl)
            have c1 := hBq.out.at_ (i := 1) (show (forkC f fa fn fc)[1]? = some (.int .i64 f.a.fo) from rfl)
            have c2 := hBq.out.at_ (i := 2) (show (forkC f fa fn fc)[2]? = some (.int .i64 f.a.no) from rfl)
            have d0 := forkC_b ok hBq.out 0 (.int .i64 f.b.st) rfl
            have d1 := forkC_b ok hBq.out 1 (.int .i64 f.b.fo) rfl
            have d2 := forkC_b ok hBq.out 2 (.int .i64 f.b.no) rfl
            simp only [Nat.reduceAdd] at d0 d1 d2
            have e0 := hBq.out.at_ (i := 74) h74.out
            have rA := forkC_a ok hBq.out
            have rB := forkC_b ok hBq.out
            go_wp2_with (first | (refine wpList_load_g (by rfl) 36 (.tmp 62) (by rfl) tb 0 (by rfl) (hdC f.a) _ rA hu (by rfl) hia ?_))
            refine (hfa.out W4 hbw.out).mono ?_
            rintro e W5 ⟨rfl, hb⟩
            replace hBq := Lib.hid (hBq.out.below hb hBq.out.lt)
            replace hbw := Lib.hid (hbw.out.trans (hb.mono hbw.out.size))
            clear hb
            clear c0 c1 c2 d0 d1 d2 e0 rA rB
            clear hfa
            cases xa with
            | false =>
             have hend := Lib.hid (hret.out _ 0 (by rw [hP.out]; simp) hbw.out)
             clear hret
             go_wp2_with fail
             exact hend.out
            | true =>
             have hend := Lib.hid (hret.out _ 321 (by rw [hP.out]; simp) hbw.out)
             clear hret
             go_wp2_with fail
             exact hend.out
         · have p4 : decide (f.b.no = (fn : Int)) = false := decide_eq_false h4
           have q4 : ((fn : Int) != f.b.no) = true := by simp; omega
           rw [p4] at hP
           clear h1 h2 h3 h4 p1 p2 p3 p4
           have hend := Lib.hid (hret.out _ 321 (by rw [hP.out]; simp) hbw.out)
           clear hret
           go_wp2_with fail
           exact hend.out
       · have p3 : decide (f.a.no ≤ f.b.no) = false := decide_eq_false h3
         have q3 : decide (f.b.no < f.a.no) = true := decide_eq_true (by omega)
         rw [p3] at hP
         clear h1 h2 h3 p1 p2 p3
         have hend := Lib.hid (hret.out _ 321 (by rw [hP.out]; simp) hbw.out)
         clear hret
         go_wp2_with fail
         exact hend.out
     · have p2 : decide (f.a.fo = f.b.fo) = false := decide_eq_false h2
       have q2 : (f.a.fo != f.b.fo) = true := by simpa using h2
       rw [p2] at hP
       clear h1 h2 p1 p2
       have hend := Lib.hid (hret.out _ 321 (by rw [hP.out]; simp) hbw.out)
       clear hret
       go_wp2_with fail
       exact hend.out
   · have p1 : decide (f.a.st = f.b.st) = false := decide_eq_false h1
     have q1 : (f.a.st != f.b.st) = true := by simpa using h1
     rw [p1] at hP
     clear h1 p1
     have hend := Lib.hid (hret.out _ 321 (by rw [hP.out]; simp) hbw.out)
     clear hret
     go_wp2_with fail
     exact hend.out
end Go.Proofs.YtnonfdcbnkdmcaaGreatDoor
namespace Go.Proofs.YtnonfdcbnkdmcaaGreatDoor
open Go.RowKit Go.Mem
open Go.Vw (Hd Fk)
theorem cellsFork : Tryz.prog.cellsOf 53 = 75 := by kernel_rfl
section
variable {H : Type} {enc : TypeId × Value → H} {W : World}
theorem open_fork {fuel : Nat} {cs : List Value} {x : DataW H × List MemPlace} (h : DataW.trod enc Tryz.prog W 0 (fun _ => true) true fuel 53 cs = some x) : ∃ (f : Fk) (fa : Option Addr) (fn fc : Nat), cs = forkC f fa fn fc ∧ OkF f ∧ DS W fa fn fc f.ds := by
 obtain ⟨xs, n, _, rfl, hl, hlen, hf⟩ := DataW.trod_struct Tryz.underlying53 h
 rw [cellsFork] at hl
 match xs, hlen with
 | [y0, y1, y2], _ =>
  have h0 : DataW.trod enc Tryz.prog W 0 (fun _ => true) true n 36 ((cs.drop 0).take (Tryz.prog.cellsOf 36)) = some y0 := hf 0 _ rfl
  rw [cellsHead] at h0
  have h1 : DataW.trod enc Tryz.prog W 0 (fun _ => true) true n 36 ((cs.drop 37).take (Tryz.prog.cellsOf 36)) = some y1 := hf 1 _ rfl
  rw [cellsHead] at h1
  have h2 : DataW.trod enc Tryz.prog W 0 (fun _ => true) true n 47 ((cs.drop 74).take (Tryz.prog.cellsOf 47)) = some y2 := hf 2 _ rfl
  rw [cellsSlD] at h2
  obtain ⟨ha, oka, e0⟩ := open_hd h0
  obtain ⟨hb, okb, e1⟩ := open_hd h1
  obtain ⟨fa, fn, fc, ds, e2, hD⟩ := open_digs h2
  have q3 : cs.drop 75 = [] := List.drop_eq_nil_of_le (by omega)
  have q2 : cs.drop 74 = [.slice fa fn fc] := by rw [drop_parts cs 74 1 75 rfl, e2, q3]; rfl
  have q1 : cs.drop 37 = hdC hb ++ [.slice fa fn fc] := by rw [drop_parts cs 37 37 74 rfl, e1, q2]
  have q0 : cs.drop 0 = hdC ha ++ (hdC hb ++ [.slice fa fn fc]) := by rw [drop_parts cs 0 37 37 rfl, e0, q1]
  exact ⟨⟨ha, hb, ds⟩, fa, fn, fc, q0, ⟨oka, okb⟩, hD⟩
end
end Go.Proofs.YtnonfdcbnkdmcaaGreatDoor
namespace Go.Proofs.YtnonfdcbnkdmcaaGreatDoor
open Go.RowKit Go.Mem
open Go.Vw (Hd Fk proveV)

set_option maxRecDepth 100000 in
set_option maxHeartbeats 8000000 in
theorem vps_walk (pub : Int) (hp : I64 pub) (f : Fk) (ok : OkF f) (fa : Option Addr) (fn fc : Nat) (w : World) (HT : Tabs w) (H : DS w fa fn fc f.ds) :
 Calls Tryz.prog 7 #[.int .i64 pub, .agg (forkC f fa fn fc).toArray] w (RetBo true w) := by
 have HT' := Lib.hid HT
 have H' := Lib.hid H
 have n63 : (fn : Int) ≤ 9223372036854775807 := by have := H.le; have := H.max; omega
 clear HT H
 obtain ⟨X, hX⟩ : ∃ X, X = RetBo true w := ⟨_, rfl⟩
 have hfin : Hid (∀ W, Below w.heap.size w W → X (.returned (.bool true)) W) := fun W h => by rw [hX]; exact ⟨rfl, h⟩
 rw [← hX]
 clear hX
 obtain ⟨tb, htb⟩ : ∃ tb, Hid (w.heap.size = tb) := ⟨_, rfl⟩
 go_enter Tryz.func7, Tryz.ntmps7
 go_upto_region 1 with fail
 rw [htb.out]
 generalize hW : World.alloc w _ = W1
 have hB : Hid (Blk W1 tb 53 (forkC f fa fn fc)) := by rw [← hW, ← htb.out]; exact Blk.new w _ _
 have hbw : Hid (Below w.heap.size w W1) := by rw [← hW]; exact (Below.refl _ w).alloc (Nat.le_refl _) _
 clear hW
 go_wp2_with fail
 refine (sane32_any _ (HT'.out.below hbw.out)).mono ?_
 rintro e w2 ⟨rfl, hb⟩
 replace hB := Lib.hid (hB.out.below hb hB.out.lt)
 replace hbw := Lib.hid (hbw.out.trans (hb.mono hbw.out.size))
 clear hb
 have h74 : Hid (∀ wz, Below w2.heap.size w2 wz → wz.cell? ⟨tb, 74, none⟩ = some (.slice fa fn fc)) := fun wz h => (hB.out.below h hB.out.lt).at_ (forkC_74 ok fa fn fc)
 by_cases h20 : 20 < fn
 · have q1 : decide ((20 : Int) < (fn : Int)) = true := decide_eq_true (by omega)
   have q0 := h74.out w2 (Below.refl _ _)
   have hend := Lib.hid (fun m => hfin.out (w2.drewN m) (hbw.out.trans (below_drewN _ _ _)))
   clear h74 hB hfin
   go_wp2_with fail
   go_quiet (fail)
   go_wp2_with fail
   exact hend.out _
 · have q1 : decide ((20 : Int) < (fn : Int)) = false := decide_eq_false (by omega)
   have hp1 := Lib.hid (fun W (hW : Below w.heap.size w W) => prove_any pub hp f ok fa fn fc W (HT'.out.below hW) (H'.out.below hW) (by omega))
   have hp2 := Lib.hid (fun W (hW : Below w.heap.size w W) => r32prove_any pub hp f ok fa fn fc W (H'.out.below hW) (by omega))
   have hrg : Hid (∀ wz, Below w2.heap.size w2 wz → wz.rangeAt tb 0 (forkC f fa fn fc)) := fun wz h => (hB.out.below h hB.out.lt).range
   have hfi : Hid ((Tryz.prog.info? 53).map (·.size) = some (forkC f fa fn fc).length) := by show _ = _; rw [forkC_len ok]; kernel_rfl
   generalize proveV pub f = P at *
   obtain ⟨RF, hRF⟩ : ∃ r, Hid (forkC f fa fn fc = r) := ⟨_, rfl⟩
   rw [hRF.out] at hrg hfi hp1 hp2
   clear hB hRF h20
   go_upto_region 3 with fail
   refine wp_region_held_drew (S := fun wz => Below w2.heap.size w2 wz) (by kernel_rfl) ((Below.refl _ w2).drew) (fun hHeld => ?_)
   generalize w2.drew = Wd at *
   refine tQ 0 rfl hHeld ?_
   refine tX 1 rfl (fun wz hSw => h74.out wz hSw) hHeld ?_
   refine tQ 2 rfl hHeld ?_
   refine tQ 3 rfl hHeld ?_
   refine tQ 4 rfl hHeld ?_
   refine tQ 5 rfl hHeld ?_
   refine tQ 8 rfl hHeld ?_
   refine tY 6 rfl tb 0 (RF) (fun wz h => hrg.out wz h) Tryz.underlying53 hfi.out hHeld ?_
   refine tY 9 rfl tb 0 (RF) (fun wz h => hrg.out wz h) Tryz.underlying53 hfi.out hHeld ?_
   refine tO 7 rfl (fun K hK => ?_)
   go_simp
   go_at_call 32
   refine (hp1.out _ (hbw.out.trans (hHeld.mono hbw.out.size))).mono ?_
   rintro e W3 ⟨rfl, hb3⟩
   refine hK.out _ _ (hHeld.trans (hb3.mono hHeld.size)) (fun hHeld2 => ?_)
   have hHeld3 := hHeld.trans (hb3.mono hHeld.size)
   clear hHeld hHeld2 hb3
   have hHeld := hHeld3
   clear hHeld3
   clear hK K
   try simp only [Act.put, sA, s0, s1]
   refine tO 10 rfl (fun K hK => ?_)
   go_simp
   go_at_call 33
   refine (hp2.out _ (hbw.out.trans (hHeld.mono hbw.out.size))).mono ?_
   rintro e W3 ⟨rfl, hb3⟩
   refine hK.out _ _ (hHeld.trans (hb3.mono hHeld.size)) (fun hHeld2 => ?_)
   have hHeld3 := hHeld.trans (hb3.mono hHeld.size)
   clear hHeld hHeld2 hb3
   have hHeld := hHeld3
   clear hHeld3
   clear hK K
   try simp only [Act.put, sA, s0, s1]
   refine tQ 11 rfl hHeld ?_
   refine tQ 12 rfl hHeld ?_
   refine tQ 13 rfl hHeld ?_
   refine wpAnyH_done (by kernel_rfl) ?_ _
   have hend := Lib.hid (hfin.out _ (hbw.out.trans (hHeld.mono hbw.out.size)))
   clear hHeld
   go_wp2_with fail
   exact hend.out
end Go.Proofs.YtnonfdcbnkdmcaaGreatDoor
namespace Go.Proofs.YtnonfdcbnkdmcaaGreatDoor.lawVProveSpec
open Go.ChangeShapes Go.WideShapes Go.ChangeAt Go.RowKit Go.Mem
open Go.Proofs.YtnonfdcbnkdmcaaGreatDoor

set_option maxRecDepth 100000 in
theorem lifted (os : Os) (started : os.Started) (H : Type) (enc : TypeId × Value → H) :
 ReturnsInHanded {} Tryz.checked os 7 .any (fun w args => (Rows.viewsProveSpecSpec.pre enc Tryz.prog Tryz.f7 [] false w args ∧ laidMetH Tryz.prog laid2 w) ∧ sizedMet enc Tryz.prog Tryz.f7 (OpenSpec.ofChange Rows.viewsProveSpecSpec) false w args)
  (Rows.viewsProveSpecSpec.post enc Tryz.prog Tryz.f7 false true false false) := by
 refine returnsInHanded_of_change_and (C := Tryz.checked) (X := fun w _ => laidMetH Tryz.prog laid2 w) (fun _ _ _ hh h => h.of_heap hh) own started (by kernel_rfl) Tryz.func7
  (ChangeSpec.witness_shaped (enc := enc) (C := Tryz.checked) (os := os) (X := fun w _ => laidMetH Tryz.prog laid2 w) false (World.doorLaid Tryz.prog 400 os) #[.int .i64 0, .agg (forkC Go.Vw.zeroF none 0 0).toArray] 8 rfl (World.shaped_of_RefB (by kernel_rfl) (by kernel_rfl)) (by kernel_rfl) (by kernel_rfl) (by kernel_rfl) (door_met os _)) ?_
 intro W base args ds gs before hval0 hW _ hwt hL _
 have hval : ∀ (j : Nat) t v, Tryz.f7.params[j]? = some t → args[j]? = some v → Value.okWide Tryz.prog W .any base t v := hval0
 have hW' := hW
 obtain ⟨p, q, hA0, hV, rfl, hfz, hnd⟩ := hW
 have hA : DataW.TrodAll enc Tryz.prog W 0 (fun _ => true) true Tryz.f7.params.toList args.toList ds p := hA0
 rw [Tryz.params7] at hA hval
 obtain ⟨v0, vs0, d0, ds0, p0, q0, hargs, rfl, rfl, h0, r0⟩ := trodAll_cons hA
 obtain ⟨v1, vs1, d1, ds1, p1, q1, rfl, rfl, rfl, h1, r1⟩ := trodAll_cons r0
 obtain ⟨rfl, rfl, rfl⟩ := trodAll_nil r1
 obtain rfl : args = #[v0, v1] := by cases args; simp_all
 obtain ⟨rfl, rfl⟩ := trodVars_none hV
 have lt0 : ∀ x ∈ p0, x.block < W.heap.size := by obtain ⟨m, hm⟩ := h0; exact DataW.trod_lt m _ _ _ hm
 have lt1 : ∀ x ∈ p1, x.block < W.heap.size := by obtain ⟨m, hm⟩ := h1; exact DataW.trod_lt m _ _ _ hm
 have k0' := h0
 have k1' := h1
 obtain ⟨x0, rfl⟩ := okWide_int Tryz.underlying3 (hval 0 3 v0 rfl rfl)
 obtain ⟨m0, hm0⟩ := h0
 obtain ⟨x0', e0, i0⟩ := open_int1 (cs := [.int .i64 x0]) (by simpa [Value.cells] using hm0)
 obtain rfl : x0 = x0' := by simpa using e0
 clear hm0 e0
 obtain ⟨cs1, rfl, _⟩ := okWide_struct Tryz.underlying53 (hval 1 53 v1 rfl rfl)
 obtain ⟨m1, hm1⟩ := h1
 obtain ⟨f1, fa1, fn1, fc1, e1, ok1, S1⟩ := open_fork (cs := cs1.toList) (by simpa [Value.cells] using hm1)
 obtain rfl : cs1 = (forkC f1 fa1 fn1 fc1).toArray := by rw [← e1]
 clear hm1 e1
 have hT := tabs_of_laid hL
 clear hA0 hval0
 refine (vps_walk x0 i0 f1 ok1 fa1 fn1 fc1 W hT S1).mono fun e W' ⟨he, bel⟩ => ?_
 subst he
 exact ⟨_, rfl, _, _, _, [], _, [], hW', trodAll_mk1 (shut_bool Tryz.underlying4 _),
  (trodAll_cons_mk (Below.trod laidOut (by kernel_rfl) (of_decide_eq_true (by kernel_rfl)) k0' bel lt0) (trodAll_cons_mk (Below.trod laidOut (by kernel_rfl) (of_decide_eq_true (by kernel_rfl)) k1' bel lt1) trodAll_mk0)), rfl, bel.frame _, fun h => by cases h⟩

theorem over : Rows.ViewsProveSpecSaid :=
 OpenClaim.holds_of_wide 7 Tryz.f7 rfl rfl rfl rfl rfl rfl rfl ⟨rfl, rfl, rfl, rfl, rfl⟩ rfl rfl rfl rfl rfl (by kernel_rfl) Tryz.func7 (by kernel_rfl)
  (of_decide_eq_true (by kernel_rfl)) (by unfold Func.isWrapper; first | (rw [if_pos (by decide +kernel)]; kernel_rfl) | (rw [if_neg (by decide +kernel)]; exact ⟨rfl, rfl⟩))
  (fun os started H enc _ => lifted os started H enc)

theorem proved : Rows.ViewsProveSpecCardSaid :=
 Claim7.holds_tied_plain_at .later [] [.data, .data] true (true, "f1795c23477191a86de028924151d0d8d5cdfe28fb540b6f067f4dbe71f008fb") false
  over (fun _ h => by cases h) (by kernel_rfl) (fun _ h => by cases h) viewsProveSpec_row_tie rfl ⟨rfl, rfl⟩ (by kernel_rfl) rfl
  (fun f fn hf hfn => by
    obtain rfl : f = 7 := Option.some.inj ((show Tryz.prog.funcNamed "chartroom/chartroomlaw32.ViewsProveSpec" = some 7 by kernel_rfl).symm.trans hf) |>.symm
    obtain rfl : fn = Tryz.f7 := (Option.some.inj (Tryz.func7.symm.trans hfn)).symm
    exact ⟨by kernel_rfl, fun j t ht => by
     rw [Tryz.params7] at ht
     have hm : t ∈ [3, 53] := by simpa using Array.mem_of_getElem? ht
     have hall : ([3, 53].all fun u => !Tryz.prog.wantsStandIn u) = true := by kernel_rfl
     exact (show Tryz.prog.wantsStandIn t = false by simpa using List.all_eq_true.1 hall t hm)⟩)
  (by kernel_rfl)
#print axioms proved
end Go.Proofs.YtnonfdcbnkdmcaaGreatDoor.lawVProveSpec
