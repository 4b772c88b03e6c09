/- SameFork of equal proofs -/
import Derived.Test.YtnonfdcbnkdmcaaGreatDoorVwE
import Derived.Test.YtnonfdcbnkdmcaaGreatDoorVwD
namespace Go.Proofs.YtnonfdcbnkdmcaaGreatDoor
open Go.RowKit Go.Mem Go.Shelf
open Go.Vw (Hd Fk)

theorem fewV_iff' {a b : Nat} (h : fewV a b = true) : a ≤ 14 ∧ b ≤ 8 := by
 unfold fewV at h
 rw [Bool.and_eq_true, decide_eq_true_iff, decide_eq_true_iff] at h
 exact h
set_option maxRecDepth 20000 in
set_option maxHeartbeats 4000000 in
theorem sameFk_any (f : Fk) (ok : OkF f) (fa : Option Addr) (fn fc : Nat) (ga : Option Addr) (gc : Nat) (w : World) (H : DS w fa fn fc f.ds) (G : DS w ga fn gc f.ds) : Calls Tryz.prog 28 #[.agg (forkC f fa fn fc).toArray, .agg (forkC f ga fn gc).toArray] w (RetBo true w) := by
 obtain ⟨tb, htb⟩ : ∃ tb, Hid (w.heap.size = tb) := ⟨_, rfl⟩
 obtain ⟨W1, hW1⟩ : ∃ W1, W1 = (w.alloc (.cells (forkC f fa fn fc).toArray 53)).alloc (.cells (forkC f ga fn gc).toArray 53) := ⟨_, rfl⟩
 have e1 : (w.alloc (.cells (forkC f fa fn fc).toArray 53)).heap.size = tb + 1 := by rw [World.size_alloc, htb.out]
 have hA : Blk W1 tb 53 (forkC f fa fn fc) := by rw [hW1, ← htb.out]; exact (Blk.new w _ _).alloc _
 have hB : Blk W1 (tb + 1) 53 (forkC f ga fn gc) := by rw [hW1, ← e1]; exact Blk.new _ _ _
 have hb1 : Hid (Below w.heap.size w W1) := by rw [hW1]; exact ((Below.refl _ w).alloc (Nat.le_refl _) _).alloc (by simp) _
 clear e1
 have ra := Lib.hid (forkC_a ok hA)
 have rb := Lib.hid (forkC_a ok hB)
 have ra2 := Lib.hid (forkC_b ok hA)
 have rb2 := Lib.hid (forkC_b ok hB)
 have a74 := hA.at_ (forkC_74 ok fa fn fc)
 have b74 := hB.at_ (forkC_74 ok ga fn gc)
 have heq := fun W => eq_head ok.a ok.a W
 rw [Go.Proofs.YtnonfdcbnkdmcaaGreatDoor.eqH_refl] at heq
 have heq2 := fun W => eq_head ok.b ok.b W
 rw [Go.Proofs.YtnonfdcbnkdmcaaGreatDoor.eqH_refl] at heq2
 have hia := infoHd ok.a
 have hib := infoHd ok.b
 have hsd : Hid (∀ W, Below w.heap.size w W → Calls Tryz.prog 53 #[.slice fa fn fc, .slice ga fn gc] W (RetBo true W)) := fun W hb => by
  have := sameD_any fa fn fc f.ds ga fn gc f.ds W (H.below hb) (G.below hb)
  rwa [decide_eq_true rfl] at this
 clear H G hA hB
 obtain ⟨rf, hrf⟩ : ∃ rf, Hid (forkC f fa fn fc = rf) := ⟨_, rfl⟩
 obtain ⟨rg, hrg⟩ : ∃ rg, Hid (forkC f ga fn gc = rg) := ⟨_, rfl⟩
 rw [hrf.out, hrg.out] at hW1 ⊢
 clear ok hrf hrg
 generalize hdC f.a = r at *
 generalize hdC f.b = r2 at *
 go_enter Tryz.func28, Tryz.ntmps28
 go_upto_region 1 with fail
 rw [htb.out]
 generalize hWq : (w.alloc _).alloc _ = Wq
 obtain rfl : W1 = Wq := by rw [← hWq, hW1]
 clear hWq hW1
 go_wp2_with (first
  | (refine wpList_load_g (by rfl) 36 _ (by rfl) tb 0 (by rfl) r _ ra.out Tryz.underlying36 (by rfl) hia.out ?_)
   | (refine wpList_load_g (by rfl) 36 _ (by rfl) (tb + 1) 0 (by rfl) r _ rb.out Tryz.underlying36 (by rfl) hia.out ?_)
   | (refine wpList_load_g (by rfl) 36 _ (by rfl) tb 37 (by rfl) r2 _ ra2.out Tryz.underlying36 (by rfl) hib.out ?_)
   | (refine wpList_load_g (by rfl) 36 _ (by rfl) (tb + 1) 37 (by rfl) r2 _ rb2.out Tryz.underlying36 (by rfl) hib.out ?_))
 refine (hsd.out _ hb1.out).mono ?_
 rintro e w2 ⟨rfl, hb2⟩
 have hf := Lib.hid (hb1.out.trans (hb2.mono hb1.out.size))
 clear hb2 ra rb ra2 rb2 a74 b74
 go_wp2_with fail
 go_ret
 exact ⟨rfl, hf.out⟩
end Go.Proofs.YtnonfdcbnkdmcaaGreatDoor
