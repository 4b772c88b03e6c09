/- the reference 05: Private, Public, Sign the reference 30: kind, Digest, entry, number -/
import Derived.Test.YtnonfdcbnkdmcaaGreatDoorAl
import Derived.Test.YtnonfdcbnkdmcaaGreatDoorRfV
import Derived.KernelRfl
import Derived.Laws.ResultCell
import Derived.Deep.MidRow
import Derived.Test.YtnonfdcbnkdmcaaGreatDoorRfS
import Derived.Test.YtnonfdcbnkdmcaaGreatDoorChk
namespace Go.Mem
open Go.RowKit
variable {P : Program}
theorem load_blkV {W : World} {g : Nat} {t ty : TypeId} {r : List Value} {d : TypeDesc} (hB : Blk W g t r) (hu : P.underlying ty = some d) (hd : d.isRow = true) (hi : (P.info? ty).map (·.size) = some r.length) :
 (loadVar ty ⟨g, 0, none⟩).run P W = .ok (.agg r.toArray) W := run_loadVar_mid W g 0 ty r d hB.range hu hd hi

theorem ret_cellV {fn : Func} {p : Tmp} {ty t : TypeId} (h : fn.results = #[.cell p ty]) {W : World} {g : Nat} {r : List Value} {d : TypeDesc} (hB : Blk W g t r) (hu : P.underlying ty = some d) (hd : d.isRow = true) (hi : (P.info? ty).map (·.size) = some r.length)
 {a : Act} (hp : a.tmps.getD p undef = .pointer (some ⟨g, 0, none⟩)) (hdf : a.defers = []) {Post : Ending → World → Prop} (hP : Post (.returned (.agg r.toArray)) W) : bodyPost P fn Post .ret a W := by
 refine bodyPost_ret (v := .agg r.toArray) ?_ hdf hP
 have hp' : a.tmps[p]?.getD undef = .pointer (some ⟨g, 0, none⟩) := by simpa using hp
 simp [results, h, hp', asAddr, load_blkV hB hu hd hi]

end Go.Mem
namespace Go.Proofs.YtnonfdcbnkdmcaaGreatDoor
open Go.RowKit Go.Mem

section
variable (b : Int) (hb4 : Grp.ok b = true) (hbase : ∀ (S : Int) (W : World), Calls Tryz.prog 138 #[.int .i64 S] W (RetQQ (Grp.exp b S) W))
include hb4 hbase
end
section
variable (b : Int) (hb4 : Grp.ok b = true) (hbase : ∀ (S : Int) (W : World), Calls Tryz.prog 138 #[.int .i64 S] W (RetQQ (Grp.exp b S) W))
include hb4 hbase
end
end Go.Proofs.YtnonfdcbnkdmcaaGreatDoor
namespace Go.Proofs.YtnonfdcbnkdmcaaGreatDoor
open Go.RowKit Go.Mem
open Go.Sto (Ent Lg St)

theorem own_oneK (W : World) (k : Int) : OwnY W.heap.size (W.alloc (.cells #[.int .u8 (k % 256)] 5)) (.slice (some ⟨W.heap.size, 0, none⟩) 1 1) [(k % 256).toNat] := by
 refine ⟨⟨rfl, Or.inr ⟨W.heap.size, 1, #[.int .u8 (k % 256)], rfl, Nat.le_refl _, heap_alloc_new W _, Nat.le_refl _, by unfold maxLen; omega, rfl, ?_⟩⟩, fun x hx => ?_⟩
 · show [Value.int .u8 (k % 256)] = bv [(k % 256).toNat]
   show _ = [Value.int .u8 _]
   rw [Int.toNat_of_nonneg (by omega)]
 · rw [List.mem_singleton] at hx; omega

set_option maxRecDepth 20000 in
set_option maxHeartbeats 2000000 in
theorem r30digest_any (kind : Int) (hk : -9223372036854775808 ≤ kind ∧ kind ≤ 9223372036854775807) (a : Option Addr) (n c : Nat) (l : List Nat) (w : World) (H : BW w a n c l) (hn : n ≤ 140737488354000) :
 Calls Tryz.prog 104 #[.int .i64 kind, .slice a n c] w (DigPost (entryD kind l) w) := by
 obtain ⟨k0, k1⟩ := hk
 have H' := Lib.hid H
 have hln := Lib.hid H.len
 clear H
 obtain ⟨X, hX⟩ : ∃ X, Hid (X = DigPost (entryD kind l) w) := ⟨_, rfl⟩
 rw [← hX.out]
 obtain ⟨tb, htb⟩ : ∃ tb, Hid (w.heap.size = tb) := ⟨_, rfl⟩
 have hed : Hid (Sha.tagged (octets ⟨#[101, 110, 116, 114, 121]⟩) ([(kind % 256).toNat] ++ l) = entryD kind l) := rfl
 have hll : Hid ((entryD kind l).length = 32) := Sha.tagged_length _ _
 obtain ⟨D, hD⟩ : ∃ D, Hid (entryD kind l = D) := ⟨_, rfl⟩
 rw [hD.out] at hed hll
 have hfin : Hid (∀ W, Below w.heap.size w W → X (.returned (.agg (bv D).toArray)) W) := fun W h => by rw [hX.out, hD.out]; exact ⟨rfl, h⟩
 clear hX hD
 go_enter Tryz.func104, Tryz.ntmps104
 go_upto_region 1 with fail
 rw [htb.out]
 generalize hW1 : World.alloc w _ = W1
 have hD1 : Blk W1 tb 32 (bv (List.replicate 32 0)) := by rw [← hW1, ← htb.out]; exact Blk.new w _ _
 have hb1 : Below w.heap.size w W1 := by rw [← hW1]; exact (Below.refl _ w).alloc (Nat.le_refl _) _
 clear hW1
 obtain ⟨v1, V1, hr1, ho1, hbv⟩ := append_byL (own_oneK W1 kind) (by simp) ((Below.refl _ W1).alloc (Nat.le_refl _) (.cells #[.int .u8 (kind % 256)] 5)) (H'.out.below (hb1.alloc hb1.size _)) (by rw [List.length_singleton]; omega)
 obtain ⟨a2, c2, rfl, hB2⟩ := BS.own ho1.1 ho1.2
 have hr1' := Lib.hid hr1
 have hB2' := Lib.hid hB2
 have hl2 : Hid (([(kind % 256).toNat] ++ l).length = n + 1) := by show _ = _; rw [List.length_append, hln.out, List.length_singleton]; omega
 rw [hl2.out] at hr1' hB2'
 have hb2 := Lib.hid (hb1.trans (hbv.mono hb1.size))
 have hD2 := Lib.hid (hD1.below hbv hD1.lt)
 clear hr1 hB2 ho1 hbv hD1 hb1 H'
 go_wp2_with (first
  | (at_builtin; refine Lib.wpList_append_run _ rfl _ _ _ _ rfl _ _ rfl rfl _ _ (hr1'.out _) ?_))
 refine (r2tagged_any ⟨#[101, 110, 116, 114, 121]⟩ (by decide) _ _ _ _ V1 (bw_of hB2'.out) (by omega)).mono ?_
 rintro e W3 ⟨rfl, hb3⟩
 rw [hed.out]
 obtain ⟨RES, hRES⟩ : ∃ R, Hid (bv D = R) := ⟨_, rfl⟩
 have hol : RES.length = 32 := by rw [← hRES.out, bv_length, hll.out]
 have hP := Lib.hid (Put.mk' (ty := 32) (RES := RES) (hD2.out.below hb3 hD2.out.lt) (by rw [hol]; rfl) (by rw [hol]; exact size35) (by rw [← hRES.out]; exact bv_one _))
 have hend := Lib.hid (hfin.out _ (below_grown (hb2.out.trans (hb3.mono hb2.out.size)) hP.out.grw (hb2.out.trans (hb3.mono hb2.out.size)).size (Nat.le_of_eq htb.out)))
 rw [hRES.out] at hend ⊢
 clear hb3 hb2 hD2 hB2' hr1' hed hfin hll hRES
 go_wp2_with (first
  | (refine wpList_store_mid (by rfl) 32 (.tmp 4) (.tmp 10) (by rfl) tb 0 RES.toArray (by rfl) (by rfl) hP.out.th hP.out.inf hP.out.one ?_))
 exact ret_cellV (p := 4) rfl hP.out.blk Tryz.underlying32 rfl hP.out.inf rfl rfl hend.out

end Go.Proofs.YtnonfdcbnkdmcaaGreatDoor

