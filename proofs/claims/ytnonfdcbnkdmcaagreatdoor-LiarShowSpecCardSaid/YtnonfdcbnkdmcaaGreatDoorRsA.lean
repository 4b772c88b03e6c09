/- the reference 05: Private, Public, Sign the reference 30: kind, Digest, entry, number -/
import Derived.Test.YtnonfdcbnkdmcaaGreatDoorAl
import Derived.Test.YtnonfdcbnkdmcaaGreatDoorRfV
import Derived.KernelRfl
import Derived.Laws.ResultCell
import Derived.Deep.MidRow
import Derived.Test.YtnonfdcbnkdmcaaGreatDoorRfS
import Derived.Test.YtnonfdcbnkdmcaaGreatDoorChk
namespace Go.Mem
open Go.RowKit
variable {P : Program}
theorem load_blkV {W : World} {g : Nat} {t ty : TypeId} {r : List Value} {d : TypeDesc} (hB : Blk W g t r) (hu : P.underlying ty = some d) (hd : d.isRow = true) (hi : (P.info? ty).map (·.size) = some r.length) :
 (loadVar ty ⟨g, 0, none⟩).run P W = .ok (.agg r.toArray) W := run_loadVar_mid W g 0 ty r d hB.range hu hd hi

theorem ret_cellV {fn : Func} {p : Tmp} {ty t : TypeId} (h : fn.results = #[.cell p ty]) {W : World} {g : Nat} {r : List Value} {d : TypeDesc} (hB : Blk W g t r) (hu : P.underlying ty = some d) (hd : d.isRow = true) (hi : (P.info? ty).map (·.size) = some r.length)
 {a : Act} (hp : a.tmps.getD p undef = .pointer (some ⟨g, 0, none⟩)) (hdf : a.defers = []) {Post : Ending → World → Prop} (hP : Post (.returned (.agg r.toArray)) W) : bodyPost P fn Post .ret a W := by
 refine bodyPost_ret (v := .agg r.toArray) ?_ hdf hP
 have hp' : a.tmps[p]?.getD undef = .pointer (some ⟨g, 0, none⟩) := by simpa using hp
 simp [results, h, hp', asAddr, load_blkV hB hu hd hi]

theorem ret_cell_tmpV {fn : Func} {p u : Tmp} {ty t : TypeId} (h : fn.results = #[.cell p ty, .tmp u]) {W : World} {g : Nat} {r : List Value} {d : TypeDesc} {v : Value} (hB : Blk W g t r) (hu : P.underlying ty = some d) (hd : d.isRow = true) (hi : (P.info? ty).map (·.size) = some r.length)
 {a : Act} (hp : a.tmps.getD p undef = .pointer (some ⟨g, 0, none⟩)) (hq : a.tmps.getD u undef = v) (hdf : a.defers = []) {Post : Ending → World → Prop} (hP : Post (.returned (.tuple #[.agg r.toArray, v])) W) : bodyPost P fn Post .ret a W := by
 refine bodyPost_ret (v := .tuple #[.agg r.toArray, v]) ?_ hdf hP
 rw [results_cell_tmp h, hp, hq]
 simp only [asAddr, Sem.run_pure, Result.andThen_ok, load_blkV hB hu hd hi]

end Go.Mem
namespace Go.Proofs.YtnonfdcbnkdmcaaGreatDoor
open Go.RowKit Go.Mem

set_option maxHeartbeats 400000 in
theorem r5private_any (x : Int) (w : World) : Calls Tryz.prog 146 #[.int .i64 x] w (RetQ (.bool (keyOk x)) w) := by
 by_cases h0 : 1 ≤ x
 · have h0' : decide (1 ≤ x) = true := by simpa using h0
   by_cases h1 : x < 2305843009213688669
   · have h1' : decide (x < 2305843009213688669) = true := by simpa using h1
     have hr : Hid (keyOk x = true) := by show _ = _; unfold keyOk; simp [h0, h1]
     rw [hr.out]
     go_enter Tryz.func146, Tryz.ntmps146
     go_wp2_with fail
     go_ret
     exact ⟨rfl, rfl⟩
   · have h1' : decide (x < 2305843009213688669) = false := by simpa using h1
     have hr : Hid (keyOk x = false) := by show _ = _; unfold keyOk; simp; omega
     rw [hr.out]
     go_enter Tryz.func146, Tryz.ntmps146
     go_wp2_with fail
     go_ret
     exact ⟨rfl, rfl⟩
 · have h0' : decide (1 ≤ x) = false := by simpa using h0
   have hr : Hid (keyOk x = false) := by show _ = _; unfold keyOk; simp; omega
   rw [hr.out]
   go_enter Tryz.func146, Tryz.ntmps146
   go_wp2_with fail
   go_ret
   exact ⟨rfl, rfl⟩

theorem ok_err (b : Int) (hb : Grp.ok b = true) (x : Int) (hk : keyOk x = true) : (Grp.exp b x).2 = 0 := by
 unfold keyOk at hk
 have h := of_decide_eq_true hk
 unfold Grp.exp; rw [if_pos hb, if_pos (by omega)]
section
variable (b : Int) (hb4 : Grp.ok b = true) (hbase : ∀ (S : Int) (W : World), Calls Tryz.prog 138 #[.int .i64 S] W (RetQQ (Grp.exp b S) W))
include hb4 hbase
set_option maxHeartbeats 1000000 in
theorem r5public_b (x : Int) (w : World) : Calls Tryz.prog 93 #[.int .i64 x] w (RetQQ (publicK b x) w) := by
 have hpv := Lib.hid (r5private_any x w)
 have hbs := Lib.hid (hbase x w)
 clear hbase
 cases hk : keyOk x with
 | false =>
  rw [hk] at hpv
  rw [publicK_f hk]
  go_enter Tryz.func93, Tryz.ntmps93
  go_wp2_with fail
  refine hpv.out.mono ?_
  rintro e w1 ⟨rfl, rfl⟩
  go_wp2_with fail
  go_ret2
  exact ⟨rfl, rfl⟩
 | true =>
  rw [hk] at hpv
  have he : Grp.exp b x = (pubB b x, 0) := by rw [← ok_err b hb4 x hk]; rfl
  rw [publicK_t hk, ← he]
  obtain ⟨⟨q1, q2⟩, hq⟩ : ∃ q, Hid (Grp.exp b x = q) := ⟨_, rfl⟩
  rw [hq.out] at hbs ⊢
  clear he hk
  go_enter Tryz.func93, Tryz.ntmps93
  go_wp2_with fail
  refine hpv.out.mono ?_
  rintro e w1 ⟨rfl, rfl⟩
  go_wp2_with fail
  refine hbs.out.mono ?_
  rintro e w2 ⟨rfl, rfl⟩
  go_wp2_with fail
  go_ret2
  exact ⟨rfl, rfl⟩
end
theorem nonce_in (x : Int) (l : List Nat) : Fld.out (nonceK x l) = false := by
 unfold nonceK hashK scalar Fld.out
 have := restOf_lt 2305843009213688668 (by omega) (Sha.tagged [110, 111, 110, 99, 101] (numsB [x] ++ l))
 rw [decide_eq_false]; omega
theorem mul_in (a b : Int) : Fld.out (Fld.mul a b).1 = false := by
 unfold Fld.mul Fld.out; split <;> (rw [decide_eq_false]; first | omega | (simp only []; omega))
theorem signS_ok (x h : Int) (l : List Nat) : (signS (nonceK x l) h x).2 = 0 := by
 unfold signS Fld.add; rw [nonce_in, mul_in]; rfl

section
variable (b : Int) (hb4 : Grp.ok b = true) (hbase : ∀ (S : Int) (W : World), Calls Tryz.prog 138 #[.int .i64 S] W (RetQQ (Grp.exp b S) W))
include hb4 hbase
set_option maxRecDepth 20000 in
set_option maxHeartbeats 4000000 in
theorem r5sign_b (x : Int) (a : Option Addr) (n c : Nat) (l : List Nat) (w : World) (H : BW w a n c l) (hn : n ≤ 140737488354000) :
 Calls Tryz.prog 89 #[.int .i64 x, .slice a n c] w (SignPost (signK b x l) w) := by
 obtain ⟨X, hX⟩ : ∃ X, Hid (X = SignPost (signK b x l) w) := ⟨_, rfl⟩
 rw [← hX.out]
 have H' := Lib.hid H
 have hln := Lib.hid H.len
 have hpub := Lib.hid (fun W => r5public_b b hb4 hbase x W)
 clear H
 obtain ⟨tb, htb⟩ : ∃ tb, Hid (w.heap.size = tb) := ⟨_, rfl⟩
 cases hk : keyOk x with
 | false =>
  rw [publicK_f hk] at hpub
  have hs := signK_f (b := b) (msg := l) hk
  have hfin : Hid (∀ W, Below w.heap.size w W → X (.returned (.tuple #[.agg #[.int .i64 0, .int .i64 0], .int .i64 50])) W) := fun W h => by rw [hX.out]; unfold SignPost; rw [hs]; exact ⟨rfl, h⟩
  clear hs hbase
  go_enter Tryz.func89, Tryz.ntmps89
  go_wp2_with fail
  rw [htb.out]
  generalize hW : World.alloc w _ = W
  have hB : Hid (Blk W tb 34 [.int .i64 0, .int .i64 0]) := by rw [← hW, ← htb.out]; exact Blk.new w _ _
  have hb : Hid (Below w.heap.size w W) := by rw [← hW]; exact (Below.refl _ w).alloc (Nat.le_refl _) _
  clear hW
  refine (hpub.out W).mono ?_
  rintro e w1 ⟨rfl, rfl⟩
  have hP := Lib.hid (Put.mk' (ty := 34) (RES := [.int .i64 0, .int .i64 0]) hB.out rfl (by kernel_rfl) (by simp [Value.oneCell']))
  have hend := Lib.hid (hfin.out _ (below_grown hb.out hP.out.grw hb.out.size (Nat.le_of_eq htb.out)))
  go_wp2_with (first
   | (refine wpList_store_mid (by rfl) 34 (.tmp 4) (.tmp 22) (by rfl) tb 0 #[.int .i64 0, .int .i64 0] (by rfl) (by rfl) hP.out.th hP.out.inf hP.out.one ?_))
  exact ret_cell_tmpV (p := 4) (u := 5) rfl hP.out.blk Tryz.underlying34 rfl hP.out.inf rfl rfl rfl hend.out
 | true =>
  rw [publicK_t hk] at hpub
  obtain ⟨k, hkk⟩ : ∃ k, Hid (nonceK x l = k) := ⟨_, rfl⟩
  obtain ⟨p, hp⟩ : ∃ p, Hid (pubB b x = p) := ⟨_, rfl⟩
  obtain ⟨⟨r, r2⟩, hr⟩ : ∃ r, Hid (Grp.exp b k = r) := ⟨_, rfl⟩
  obtain ⟨h, hh⟩ : ∃ h, Hid (signH l r p = h) := ⟨_, rfl⟩
  obtain ⟨⟨m, m2⟩, hm⟩ : ∃ m, Hid (Fld.mul h x = m) := ⟨_, rfl⟩
  obtain ⟨⟨s, s2⟩, hs⟩ : ∃ s, Hid (Fld.add k m = s) := ⟨_, rfl⟩
  have hs2 : Hid (s2 = 0) := by
   have := signS_ok x h l
   unfold signS at this
   rw [hkk.out, hm.out, hs.out] at this
   exact this
  have hrp : pubB b k = r := by unfold pubB; rw [hr.out]
  have hsk : signK b x l = (r, s, 0) := by
   rw [signK_t hk, hkk.out, hp.out, hrp, hh.out]; unfold signS; rw [hm.out, hs.out, hs2.out]
  have hfin : Hid (∀ W, Below w.heap.size w W → X (.returned (.tuple #[.agg #[.int .i64 r, .int .i64 s], .int .i64 0])) W) := fun W h => by rw [hX.out]; unfold SignPost; rw [hsk]; exact ⟨rfl, h⟩
  have hpub2 : Hid (∀ W, Calls Tryz.prog 93 #[.int .i64 x] W (RetQQ (p, 0) W)) := fun W => by rw [← hp.out]; exact hpub.out W
  have hBk : Hid (∀ W, Calls Tryz.prog 138 #[.int .i64 k] W (RetQQ (r, r2) W)) := fun W => by rw [← hr.out]; exact hbase k W
  have hC : Hid (∀ W, BW W a n c l → Calls Tryz.prog 140 #[.int .i64 p, .int .i64 r, .slice a n c] W (fun e w' => e = .returned (.int .i64 h) ∧ Below W.heap.size W w')) := fun W h' => by rw [← hh.out]; exact r5chal_any p r a n c l W h' hn
  have hMm : Hid (∀ W, Calls Tryz.prog 139 #[.int .i64 h, .int .i64 x] W (RetQQ (m, m2) W)) := fun W => by rw [← hm.out]; exact r3mul_any h x W
  have hAd : Hid (∀ W, Calls Tryz.prog 141 #[.int .i64 k, .int .i64 m] W (RetQQ (s, s2) W)) := fun W => by rw [← hs.out]; exact r3add_any k m W
  have hns : Hid (((scalar (octets ⟨#[110, 111, 110, 99, 101]⟩) (numB x ++ l) : Nat) : Int) = k) := by
   show _ = _; rw [← hkk.out]; unfold nonceK hashK; rw [numsB_cons, show numsB [] = [] from rfl, List.append_nil]; rfl
  clear hbase hrp hsk hpub hk
  go_enter Tryz.func89, Tryz.ntmps89
  go_wp2_with fail
  rw [htb.out]
  generalize hW : World.alloc w _ = W
  have hB : Hid (Blk W tb 34 [.int .i64 0, .int .i64 0]) := by rw [← hW, ← htb.out]; exact Blk.new w _ _
  have hb : Hid (Below w.heap.size w W) := by rw [← hW]; exact (Below.refl _ w).alloc (Nat.le_refl _) _
  clear hW
  refine (hpub2.out W).mono ?_
  rintro e w1 ⟨rfl, rfl⟩
  go_wp2_with fail
  refine (r5bytes_any x _).mono ?_
  rintro e w2 ⟨v2, rfl, ho2, hb2⟩
  obtain ⟨v3, w3, hr3', ho3, hb3'⟩ := append_byL ho2 hb2.size hb2 (H'.out.below (hb.out.trans (hb2.mono hb.out.size))) (by simp only [numB_length]; omega)
  obtain ⟨a3, c3, rfl, hS3'⟩ := BS.own ho3.1 ho3.2
  have hr3 := Lib.hid hr3'; have hS3 := Lib.hid hS3'; have hb3 := Lib.hid (hb.out.trans (hb3'.mono hb.out.size)); have hB3 := Lib.hid (hB.out.below hb3' hB.out.lt)
  have hll : Hid ((numB x ++ l).length = n + 8) := by show _ = _; simp only [List.length_append, numB_length, hln.out]; omega
  rw [hll.out] at hr3 hS3
  clear ho2 hb2 hr3' ho3 hb3' hS3' hB hb
  go_wp2_with (first
   | (at_builtin; refine Lib.wpList_append_run _ rfl _ _ _ _ rfl _ _ rfl rfl _ _ (hr3.out _) ?_))
  refine (r4hash_any ⟨#[110, 111, 110, 99, 101]⟩ (by decide) _ _ _ _ w3 (bw_of hS3.out) (by omega)).mono ?_
  rintro e w4 ⟨rfl, hb4'⟩
  rw [hns.out]
  have hb5 := Lib.hid (hb3.out.trans (hb4'.mono hb3.out.size)); have hB5 := Lib.hid (hB3.out.below hb4' hB3.out.lt)
  clear hb4' hb3 hB3 hS3 hr3 hll
  go_wp2_with fail
  refine (hBk.out _).mono ?_
  rintro e w6 ⟨rfl, rfl⟩
  go_wp2_with fail
  refine (hC.out _ (H'.out.below hb5.out)).mono ?_
  rintro e w7 ⟨rfl, hb7'⟩
  have hb7 := Lib.hid (hb5.out.trans (hb7'.mono hb5.out.size)); have hB7 := Lib.hid (hB5.out.below hb7' hB5.out.lt)
  clear hb7' hb5 hB5
  go_wp2_with fail
  refine (hMm.out _).mono ?_
  rintro e w8 ⟨rfl, rfl⟩
  go_wp2_with fail
  refine (hAd.out _).mono ?_
  rintro e w9 ⟨rfl, rfl⟩
  have hP := Lib.hid (Put.mk' (ty := 34) (RES := [.int .i64 r, .int .i64 s]) hB7.out rfl (by kernel_rfl) (by simp [Value.oneCell']))
  have hend := Lib.hid (hfin.out _ (below_grown hb7.out hP.out.grw hb7.out.size (Nat.le_of_eq htb.out)))
  go_wp2_with (first
   | (refine wpList_store_mid (by rfl) 34 (.tmp 4) (.tmp 51) (by rfl) tb 0 #[.int .i64 r, .int .i64 s] (by rfl) (by rfl) hP.out.th hP.out.inf hP.out.one ?_))
  exact ret_cell_tmpV (p := 4) (u := 5) rfl hP.out.blk Tryz.underlying34 rfl hP.out.inf rfl rfl rfl hend.out
end
end Go.Proofs.YtnonfdcbnkdmcaaGreatDoor
namespace Go.Proofs.YtnonfdcbnkdmcaaGreatDoor
open Go.RowKit Go.Mem
open Go.Sto (Ent Lg St)

set_option maxHeartbeats 400000 in
theorem r30kind_any (x : Int) (w : World) : Calls Tryz.prog 147 #[.int .i64 x] w (fun e w' => e = .returned (.bool (Sto.kindB x)) ∧ w' = w) := by
 go_enter Tryz.func147, Tryz.ntmps147
 by_cases h1 : 1 ≤ x <;> by_cases h2 : x ≤ 7
 all_goals
  go_wp2_with fail
  go_returns
  exact ⟨by simp [Sto.kindB, h1, h2], rfl⟩

theorem own_oneK (W : World) (k : Int) : OwnY W.heap.size (W.alloc (.cells #[.int .u8 (k % 256)] 5)) (.slice (some ⟨W.heap.size, 0, none⟩) 1 1) [(k % 256).toNat] := by
 refine ⟨⟨rfl, Or.inr ⟨W.heap.size, 1, #[.int .u8 (k % 256)], rfl, Nat.le_refl _, heap_alloc_new W _, Nat.le_refl _, by unfold maxLen; omega, rfl, ?_⟩⟩, fun x hx => ?_⟩
 · show [Value.int .u8 (k % 256)] = bv [(k % 256).toNat]
   show _ = [Value.int .u8 _]
   rw [Int.toNat_of_nonneg (by omega)]
 · rw [List.mem_singleton] at hx; omega

set_option maxRecDepth 20000 in
set_option maxHeartbeats 2000000 in
theorem r30digest_any (kind : Int) (hk : -9223372036854775808 ≤ kind ∧ kind ≤ 9223372036854775807) (a : Option Addr) (n c : Nat) (l : List Nat) (w : World) (H : BW w a n c l) (hn : n ≤ 140737488354000) :
 Calls Tryz.prog 104 #[.int .i64 kind, .slice a n c] w (DigPost (entryD kind l) w) := by
 obtain ⟨k0, k1⟩ := hk
 have H' := Lib.hid H
 have hln := Lib.hid H.len
 clear H
 obtain ⟨X, hX⟩ : ∃ X, Hid (X = DigPost (entryD kind l) w) := ⟨_, rfl⟩
 rw [← hX.out]
 obtain ⟨tb, htb⟩ : ∃ tb, Hid (w.heap.size = tb) := ⟨_, rfl⟩
 have hed : Hid (Sha.tagged (octets ⟨#[101, 110, 116, 114, 121]⟩) ([(kind % 256).toNat] ++ l) = entryD kind l) := rfl
 have hll : Hid ((entryD kind l).length = 32) := Sha.tagged_length _ _
 obtain ⟨D, hD⟩ : ∃ D, Hid (entryD kind l = D) := ⟨_, rfl⟩
 rw [hD.out] at hed hll
 have hfin : Hid (∀ W, Below w.heap.size w W → X (.returned (.agg (bv D).toArray)) W) := fun W h => by rw [hX.out, hD.out]; exact ⟨rfl, h⟩
 clear hX hD
 go_enter Tryz.func104, Tryz.ntmps104
 go_upto_region 1 with fail
 rw [htb.out]
 generalize hW1 : World.alloc w _ = W1
 have hD1 : Blk W1 tb 32 (bv (List.replicate 32 0)) := by rw [← hW1, ← htb.out]; exact Blk.new w _ _
 have hb1 : Below w.heap.size w W1 := by rw [← hW1]; exact (Below.refl _ w).alloc (Nat.le_refl _) _
 clear hW1
 obtain ⟨v1, V1, hr1, ho1, hbv⟩ := append_byL (own_oneK W1 kind) (by simp) ((Below.refl _ W1).alloc (Nat.le_refl _) (.cells #[.int .u8 (kind % 256)] 5)) (H'.out.below (hb1.alloc hb1.size _)) (by rw [List.length_singleton]; omega)
 obtain ⟨a2, c2, rfl, hB2⟩ := BS.own ho1.1 ho1.2
 have hr1' := Lib.hid hr1
 have hB2' := Lib.hid hB2
 have hl2 : Hid (([(kind % 256).toNat] ++ l).length = n + 1) := by show _ = _; rw [List.length_append, hln.out, List.length_singleton]; omega
 rw [hl2.out] at hr1' hB2'
 have hb2 := Lib.hid (hb1.trans (hbv.mono hb1.size))
 have hD2 := Lib.hid (hD1.below hbv hD1.lt)
 clear hr1 hB2 ho1 hbv hD1 hb1 H'
 go_wp2_with (first
  | (at_builtin; refine Lib.wpList_append_run _ rfl _ _ _ _ rfl _ _ rfl rfl _ _ (hr1'.out _) ?_))
 refine (r2tagged_any ⟨#[101, 110, 116, 114, 121]⟩ (by decide) _ _ _ _ V1 (bw_of hB2'.out) (by omega)).mono ?_
 rintro e W3 ⟨rfl, hb3⟩
 rw [hed.out]
 obtain ⟨RES, hRES⟩ : ∃ R, Hid (bv D = R) := ⟨_, rfl⟩
 have hol : RES.length = 32 := by rw [← hRES.out, bv_length, hll.out]
 have hP := Lib.hid (Put.mk' (ty := 32) (RES := RES) (hD2.out.below hb3 hD2.out.lt) (by rw [hol]; rfl) (by rw [hol]; exact size35) (by rw [← hRES.out]; exact bv_one _))
 have hend := Lib.hid (hfin.out _ (below_grown (hb2.out.trans (hb3.mono hb2.out.size)) hP.out.grw (hb2.out.trans (hb3.mono hb2.out.size)).size (Nat.le_of_eq htb.out)))
 rw [hRES.out] at hend ⊢
 clear hb3 hb2 hD2 hB2' hr1' hed hfin hll hRES
 go_wp2_with (first
  | (refine wpList_store_mid (by rfl) 32 (.tmp 4) (.tmp 10) (by rfl) tb 0 RES.toArray (by rfl) (by rfl) hP.out.th hP.out.inf hP.out.one ?_))
 exact ret_cellV (p := 4) rfl hP.out.blk Tryz.underlying32 rfl hP.out.inf rfl rfl hend.out

set_option maxRecDepth 20000 in
set_option maxHeartbeats 2000000 in
theorem r30entry_any (e : Ent) (ho : OkE e) (da : Option Addr) (dn dc : Nat) (r : List Value) (er : r = entC e da dn dc) (w : World) (H : BW w da dn dc e.data) :
 Calls Tryz.prog 94 #[.agg r.toArray] w (RetBo (Sto.entB e) w) := by
 have H' := Lib.hid H
 have hdl := H.len
 have er' := Lib.hid er
 clear H er
 obtain ⟨X, hX⟩ : ∃ X, X = RetBo (Sto.entB e) w := ⟨_, rfl⟩
 have hfin : Hid (∀ v W, Sto.entB e = v → Below w.heap.size w W → X (.returned (.bool v)) W) := fun v W hv h => by rw [hX, hv]; exact ⟨rfl, h⟩
 rw [← hX]
 clear hX
 obtain ⟨g, hg⟩ : ∃ g, Hid (w.heap.size = g) := ⟨_, rfl⟩
 have ho' := Lib.hid ho
 have hdn := ho.data
 have hdig : Hid (Dig e.dig) := ⟨ho.dig, ho.lt⟩
 clear ho
 go_enter Tryz.func94, Tryz.ntmps94
 go_upto_region 1 with fail
 rw [hg.out]
 generalize hW : World.alloc w _ = W2
 have hB : Blk W2 g 75 r := by rw [← hW, ← hg.out]; exact Blk.new w _ _
 have hb2 : Hid (Below w.heap.size w W2) := by rw [← hW]; exact (Below.refl _ w).alloc (Nat.le_refl _) _
 clear hW
 rw [er'.out] at hB
 have hgl := hB.lt
 have hE2 := EntB.of hB ho'.out.dig
 have hdr := Lib.hid hE2.dig
 have ek := hE2.kind
 have ed := hE2.data
 have eg := hE2.gone
 clear hE2 hB
 cases hgn : e.gone with
 | true =>
  rw [hgn] at eg
  by_cases hk4 : e.kind = 4
  · rw [hk4] at ek
    by_cases hd0 : dn = 0
    · subst hd0
      have hend := Lib.hid (hfin.out true W2 (by simp [Sto.entB, Sto.goneB, hgn, hk4, hdl]) hb2.out)
      clear hdl hdn hgn hk4
      go_wp2_with fail
      exact hend.out
    · have hend := Lib.hid (hfin.out false W2 (gone_bad hgn (by omega)) hb2.out)
      have q1 : decide ((dn : Int) = 0) = false := decide_eq_false (by omega)
      have q2 : ((dn : Int) == 0) = false := by simpa using hd0
      have q3 : decide (dn = 0) = false := decide_eq_false hd0
      clear hdl hdn hgn hk4
      go_wp2_with fail
      exact hend.out
  · have hend := Lib.hid (hfin.out false W2 (by simp [Sto.entB, Sto.goneB, hgn, hk4]) hb2.out)
    have q1 : decide (e.kind = 4) = false := decide_eq_false hk4
    have q2 : (e.kind == 4) = false := by simpa using hk4
    clear hdl hdn hgn
    go_wp2_with fail
    exact hend.out
 | false =>
  rw [hgn] at eg
  have hik := Lib.hid (fun W => r30kind_any e.kind W)
  cases hkd : Sto.kindB e.kind with
  | false =>
   rw [hkd] at hik
   have hend := Lib.hid (fun m => hfin.out false (W2.drewN m) (by simp [Sto.entB, Sto.keptB, hgn, hkd]) (hb2.out.trans (below_drewN _ _ _)))
   clear hdl hdn hgn
   go_wp2_with fail
   go_quiet (first | (go_at_call 147; exact Calls.quiet_of_same (hik.out _)))
   go_wp2_with fail
   exact hend.out _
  | true =>
   rw [hkd] at hik
   have hdd := Lib.hid (fun W (hW : Below W2.heap.size W2 W) => r30digest_any e.kind ⟨ho'.out.lo, ho'.out.hi⟩ da dn dc e.data W (H'.out.below (hb2.out.trans (hW.mono hb2.out.size))) (by omega))
   have hS : FinS W2 g e.kind (bv e.dig) (.slice da dn dc) W2 := ⟨ek, hdr.out, ed, Below.refl _ _⟩
   unfold FinS at hS
   have hdD : Dig (Sto.entD e.kind e.data) := ⟨Sha.tagged_length _ _, Sha.tagged_lt _ _⟩
   obtain ⟨D, hD⟩ : ∃ D, Hid (entryD e.kind e.data = D) := ⟨_, rfl⟩
   rw [hD.out] at hdd
   have hdi : Hid ((Tryz.prog.info? 32).map (·.size) = some (bv e.dig).length) := by show _ = _; rw [bv_length, ho'.out.dig]; exact size35
   have heq := fun W => eq_dig hdig.out (show Dig D by rw [← hD.out]; exact hdD) W
   have hdi2 := hdi.out
   have hu35 := under35
   obtain ⟨q, hq⟩ : ∃ q, Hid (decide (e.dig = D) = q) := ⟨_, rfl⟩
   rw [hq.out] at heq
   have hend : Hid (∀ W, Below W2.heap.size W2 W → X (.returned (.bool q)) W) := fun W hW => hfin.out q W (by unfold Sto.entB Sto.keptB; rw [hgn, hkd, ← hq.out, ← hD.out]; rfl) (hb2.out.trans (hW.mono hb2.out.size))
   clear hdl hdn hgn hdD hfin
   go_wp2_with fail
   go_region_held3 (fun wz => wz.cell? ⟨g, 0, none⟩ = some (.int .i64 e.kind) ∧ wz.rangeAt g 1 (bv e.dig) ∧ wz.cell? ⟨g, 33, none⟩ = some (.slice da dn dc) ∧ Below W2.heap.size W2 wz) (repeat (first | assumption | apply FinS.drew))
    (first
      | (go_at_call 147; refine (hik.out _).mono ?_; rintro e wq ⟨rfl, rfl⟩)
       | (go_at_call 104; refine (hdd.out _ (FinS.below (by assumption))).mono ?_; rintro e wq ⟨rfl, hbq⟩; have hsq := FinS.next hgl (by assumption) hbq))
   go_wp2_with fail
   exact hend.out _ hsq.2.2.2

theorem EntR1 {w : World} {b o : Nat} {e : Ent} {a : Option Addr} {n c : Nat} (h : w.rangeAt b o (entC e a n c)) (_ho : e.dig.length = 32) : w.rangeAt b (o + 1) (bv e.dig) := fun j v hv => by
 have hj := (List.getElem?_eq_some_iff.1 hv).1
 rw [bv_length] at hj
 rw [bv_get (List.getElem?_eq_getElem hj)] at hv
 cases hv
 rw [Nat.add_assoc, Nat.add_comm 1 j]
 exact h _ _ (entC_dig (List.getElem?_eq_getElem hj) a n c)

set_option maxRecDepth 20000 in
set_option maxHeartbeats 2000000 in
theorem r30number_any (K : Nat → Prop) (a : Option Addr) (n c : Nat) (l : List Ent) (d : List Nat) (hd : Dig d) (w : World) (H : ES K w a n c l) :
 Calls Tryz.prog 95 #[.slice a n c, .agg (bv d).toArray] w (RetI (Sto.numE d l) w) := by
 have hlen := H.rs.len
 have hbd := H.bd
 have n63 : (n : Int) ≤ 100000 := by omega
 have H' := Lib.hid H
 clear H
 obtain ⟨X, hX⟩ : ∃ X, X = RetI (Sto.numE d l) w := ⟨_, rfl⟩
 have hfin : Hid (∀ (m : Nat) W, Sto.numE d l = m → Below w.heap.size w W → X (.returned (.int .i64 (m : Int))) W) := fun m W hm h => by rw [hX, hm]; exact ⟨rfl, h⟩
 rw [← hX]
 clear hX
 obtain ⟨tb, htb⟩ : ∃ tb, Hid (w.heap.size = tb) := ⟨_, rfl⟩
 have hdi2 : Hid ((Tryz.prog.info? 32).map (·.size) = some (bv d).length) := by show _ = _; rw [bv_length, hd.1]; exact size35
 have hd' := Lib.hid hd
 clear hd
 go_enter Tryz.func95, Tryz.ntmps95
 go_upto_region 1 with fail
 rw [htb.out]
 generalize hW : World.alloc w _ = W1
 have hB : Hid (Blk W1 tb 32 (bv d)) := by rw [← hW, ← htb.out]; exact Blk.new w _ _
 have hb1 : Hid (Below w.heap.size w W1) := by rw [← hW]; exact (Below.refl _ w).alloc (Nat.le_refl _) _
 clear hW
 go_wp2_with fail
 go_loopw [5] (fun i wr => ∃ k : Nat, k ≤ n ∧ i = .int .i64 k ∧ Hid (Blk wr tb 32 (bv d)) ∧ Hid (Below w.heap.size w wr) ∧ Hid (∀ j x, j < k → l[j]? = some x → x.dig ≠ d)) (fun i _ => n - (intOf i).toNat)
 case atStart => exact ⟨0, Nat.zero_le _, rfl, hB, hb1, fun j x hj => absurd hj (Nat.not_lt_zero j)⟩
 case round =>
  obtain ⟨k, hk, rfl, hT, hb, hn⟩ := hrel
  clear hB hb1
  by_cases hlt : k < n
  · obtain ⟨x, hx⟩ : ∃ x, l[k]? = some x := ⟨_, List.getElem?_eq_getElem (by omega)⟩
    obtain ⟨b, off, r, rfl, hbl, _, ⟨ho, da, dn, dc, er, hbk⟩, hrl, hrg⟩ := (H'.out.below hb.out).rs.get hx
    have hrg1 := (EntR1 (er ▸ hrg) ho.dig)
    have h1 : Hid (∀ wz, Below wr.heap.size wr wz → wz.rangeAt b (off + k * 35 + 1) (bv x.dig)) := fun wz h j v hj => (h.cell (p := ⟨b, _, none⟩) hbl).trans (hrg1 j v hj)
    have h2 : Hid (∀ wz, Below wr.heap.size wr wz → wz.rangeAt tb 0 (bv d)) := fun wz h => (hT.out.below h hT.out.lt).range
    have hdi1 : Hid ((Tryz.prog.info? 32).map (·.size) = some (bv x.dig).length) := by show _ = _; rw [bv_length, ho.dig]; exact size35
    have heq := fun W => eq_dig (show Dig x.dig from ⟨ho.dig, ho.lt⟩) hd'.out W
    have k0 : (0 : Int) ≤ (k : Int) := by omega
    have k1 : (k : Int) < (n : Int) := by omega
    have kw : IntKind.i64.wrap ((k : Int) + 1) = (k : Int) + 1 := IntWalk.i64_in _ (by omega)
    have hx' := Lib.hid hx
    clear hrg hrg1 er hbk hrl ho hx
    by_cases hde : x.dig = d
    · rw [decide_eq_true hde] at heq
      have hend : Hid (∀ W, Below w.heap.size w W → X (.returned (.int .i64 ((k : Int) + 1))) W) := fun W h => hfin.out (k + 1) W (Sto.numE_at hx'.out hde hn.out) h
      clear hde hn hx' hfin
      go_upto_region 4 with fail
      refine wp_region_held_drew (S := fun wz => Below wr.heap.size wr wz) (by kernel_rfl) ((Below.refl _ wr).drew) (fun hHeld => ?_)
      generalize hWd : wr.drew = Wd at *
      clear hWd
      refine tQ 0 rfl hHeld ?_
      refine tQ 1 rfl hHeld ?_
      refine tQ 2 rfl hHeld ?_
      refine tQ 3 rfl hHeld ?_
      refine tY 4 rfl b (off + k * 35 + 1) (bv x.dig) (fun wz h => h1.out wz h) Tryz.underlying32 hdi1.out hHeld ?_
      refine tY 5 rfl tb 0 (bv d) (fun wz h => h2.out wz h) Tryz.underlying32 hdi2.out hHeld ?_
      refine tX 6 rfl (fun wz hSw => heq) hHeld ?_
      refine wpAnyH_done (by kernel_rfl) ?_ _
      have hb2 := Lib.hid (hb.out.trans (hHeld.mono hb.out.size))
      have hT3 := hT.out.below hHeld hT.out.lt
      clear hHeld heq
      go_wp2_with fail
      exact hend.out _ hb2.out
    · rw [decide_eq_false hde] at heq
      have hn2 : Hid (∀ j y, j < k + 1 → l[j]? = some y → y.dig ≠ d) := fun j y hj hy => by
       by_cases hjk : j = k
       · subst hjk; rw [hx'.out] at hy; cases hy; exact hde
       · exact hn.out j y (by omega) hy
      clear hde hn hx'
      go_upto_region 4 with fail
      refine wp_region_held_drew (S := fun wz => Below wr.heap.size wr wz) (by kernel_rfl) ((Below.refl _ wr).drew) (fun hHeld => ?_)
      generalize hWd : wr.drew = Wd at *
      clear hWd
      refine tQ 0 rfl hHeld ?_
      refine tQ 1 rfl hHeld ?_
      refine tQ 2 rfl hHeld ?_
      refine tQ 3 rfl hHeld ?_
      refine tY 4 rfl b (off + k * 35 + 1) (bv x.dig) (fun wz h => h1.out wz h) Tryz.underlying32 hdi1.out hHeld ?_
      refine tY 5 rfl tb 0 (bv d) (fun wz h => h2.out wz h) Tryz.underlying32 hdi2.out hHeld ?_
      refine tX 6 rfl (fun wz hSw => heq) hHeld ?_
      refine wpAnyH_done (by kernel_rfl) ?_ _
      have hb2 := Lib.hid (hb.out.trans (hHeld.mono hb.out.size))
      have hT3 := hT.out.below hHeld hT.out.lt
      clear hHeld heq
      have hT2 : Hid (Blk Wd tb 32 (bv d)) := hT3
      clear hT
      go_wp2_with fail
      go_roundw
      case rel => exact ⟨k + 1, by omega, by go_num, hT2, hb2, hn2⟩
      case measure => simp [intOf]; omega
  · obtain rfl : k = n := by omega
    have hend := Lib.hid (hfin.out 0 wr (Sto.numE_none fun j x hj hx => hn.out j x (by omega) hx) hb.out)
    clear hfin hn
    go_wp2_with fail
    exact hend.out
end Go.Proofs.YtnonfdcbnkdmcaaGreatDoor
