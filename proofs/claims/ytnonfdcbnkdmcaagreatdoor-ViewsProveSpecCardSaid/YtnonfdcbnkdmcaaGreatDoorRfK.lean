/- the reference 05: Private, Public, Sign -/
import Derived.Test.YtnonfdcbnkdmcaaGreatDoorRfV
import Derived.KernelRfl
import Derived.Laws.ResultCell
import Derived.Deep.MidRow
namespace Go.Mem
open Go.RowKit
variable {P : Program}
theorem load_blkV {W : World} {g : Nat} {t ty : TypeId} {r : List Value} {d : TypeDesc} (hB : Blk W g t r) (hu : P.underlying ty = some d) (hd : d.isRow = true) (hi : (P.info? ty).map (·.size) = some r.length) :
 (loadVar ty ⟨g, 0, none⟩).run P W = .ok (.agg r.toArray) W := run_loadVar_mid W g 0 ty r d hB.range hu hd hi

theorem ret_cellV {fn : Func} {p : Tmp} {ty t : TypeId} (h : fn.results = #[.cell p ty]) {W : World} {g : Nat} {r : List Value} {d : TypeDesc} (hB : Blk W g t r) (hu : P.underlying ty = some d) (hd : d.isRow = true) (hi : (P.info? ty).map (·.size) = some r.length)
 {a : Act} (hp : a.tmps.getD p undef = .pointer (some ⟨g, 0, none⟩)) (hdf : a.defers = []) {Post : Ending → World → Prop} (hP : Post (.returned (.agg r.toArray)) W) : bodyPost P fn Post .ret a W := by
 refine bodyPost_ret (v := .agg r.toArray) ?_ hdf hP
 have hp' : a.tmps[p]?.getD undef = .pointer (some ⟨g, 0, none⟩) := by simpa using hp
 simp [results, h, hp', asAddr, load_blkV hB hu hd hi]

theorem ret_cell_tmpV {fn : Func} {p u : Tmp} {ty t : TypeId} (h : fn.results = #[.cell p ty, .tmp u]) {W : World} {g : Nat} {r : List Value} {d : TypeDesc} {v : Value} (hB : Blk W g t r) (hu : P.underlying ty = some d) (hd : d.isRow = true) (hi : (P.info? ty).map (·.size) = some r.length)
 {a : Act} (hp : a.tmps.getD p undef = .pointer (some ⟨g, 0, none⟩)) (hq : a.tmps.getD u undef = v) (hdf : a.defers = []) {Post : Ending → World → Prop} (hP : Post (.returned (.tuple #[.agg r.toArray, v])) W) : bodyPost P fn Post .ret a W := by
 refine bodyPost_ret (v := .tuple #[.agg r.toArray, v]) ?_ hdf hP
 rw [results_cell_tmp h, hp, hq]
 simp only [asAddr, Sem.run_pure, Result.andThen_ok, load_blkV hB hu hd hi]

end Go.Mem
namespace Go.Proofs.YtnonfdcbnkdmcaaGreatDoor
open Go.RowKit Go.Mem

set_option maxHeartbeats 400000 in
theorem r5private_any (x : Int) (w : World) : Calls Tryz.prog 146 #[.int .i64 x] w (RetQ (.bool (keyOk x)) w) := by
 by_cases h0 : 1 ≤ x
 · have h0' : decide (1 ≤ x) = true := by simpa using h0
   by_cases h1 : x < 2305843009213688669
   · have h1' : decide (x < 2305843009213688669) = true := by simpa using h1
     have hr : Hid (keyOk x = true) := by show _ = _; unfold keyOk; simp [h0, h1]
     rw [hr.out]
     go_enter Tryz.func146, Tryz.ntmps146
     go_wp2_with fail
     go_ret
     exact ⟨rfl, rfl⟩
   · have h1' : decide (x < 2305843009213688669) = false := by simpa using h1
     have hr : Hid (keyOk x = false) := by show _ = _; unfold keyOk; simp; omega
     rw [hr.out]
     go_enter Tryz.func146, Tryz.ntmps146
     go_wp2_with fail
     go_ret
     exact ⟨rfl, rfl⟩
 · have h0' : decide (1 ≤ x) = false := by simpa using h0
   have hr : Hid (keyOk x = false) := by show _ = _; unfold keyOk; simp; omega
   rw [hr.out]
   go_enter Tryz.func146, Tryz.ntmps146
   go_wp2_with fail
   go_ret
   exact ⟨rfl, rfl⟩

theorem ok_err (b : Int) (hb : Grp.ok b = true) (x : Int) (hk : keyOk x = true) : (Grp.exp b x).2 = 0 := by
 unfold keyOk at hk
 have h := of_decide_eq_true hk
 unfold Grp.exp; rw [if_pos hb, if_pos (by omega)]
section
variable (b : Int) (hb4 : Grp.ok b = true) (hbase : ∀ (S : Int) (W : World), Calls Tryz.prog 138 #[.int .i64 S] W (RetQQ (Grp.exp b S) W))
include hb4 hbase
set_option maxHeartbeats 1000000 in
theorem r5public_b (x : Int) (w : World) : Calls Tryz.prog 93 #[.int .i64 x] w (RetQQ (publicK b x) w) := by
 have hpv := Lib.hid (r5private_any x w)
 have hbs := Lib.hid (hbase x w)
 clear hbase
 cases hk : keyOk x with
 | false =>
  rw [hk] at hpv
  rw [publicK_f hk]
  go_enter Tryz.func93, Tryz.ntmps93
  go_wp2_with fail
  refine hpv.out.mono ?_
  rintro e w1 ⟨rfl, rfl⟩
  go_wp2_with fail
  go_ret2
  exact ⟨rfl, rfl⟩
 | true =>
  rw [hk] at hpv
  have he : Grp.exp b x = (pubB b x, 0) := by rw [← ok_err b hb4 x hk]; rfl
  rw [publicK_t hk, ← he]
  obtain ⟨⟨q1, q2⟩, hq⟩ : ∃ q, Hid (Grp.exp b x = q) := ⟨_, rfl⟩
  rw [hq.out] at hbs ⊢
  clear he hk
  go_enter Tryz.func93, Tryz.ntmps93
  go_wp2_with fail
  refine hpv.out.mono ?_
  rintro e w1 ⟨rfl, rfl⟩
  go_wp2_with fail
  refine hbs.out.mono ?_
  rintro e w2 ⟨rfl, rfl⟩
  go_wp2_with fail
  go_ret2
  exact ⟨rfl, rfl⟩
end
theorem nonce_in (x : Int) (l : List Nat) : Fld.out (nonceK x l) = false := by
 unfold nonceK hashK scalar Fld.out
 have := restOf_lt 2305843009213688668 (by omega) (Sha.tagged [110, 111, 110, 99, 101] (numsB [x] ++ l))
 rw [decide_eq_false]; omega
theorem mul_in (a b : Int) : Fld.out (Fld.mul a b).1 = false := by
 unfold Fld.mul Fld.out; split <;> (rw [decide_eq_false]; first | omega | (simp only []; omega))
theorem signS_ok (x h : Int) (l : List Nat) : (signS (nonceK x l) h x).2 = 0 := by
 unfold signS Fld.add; rw [nonce_in, mul_in]; rfl

section
variable (b : Int) (hb4 : Grp.ok b = true) (hbase : ∀ (S : Int) (W : World), Calls Tryz.prog 138 #[.int .i64 S] W (RetQQ (Grp.exp b S) W))
include hb4 hbase
set_option maxRecDepth 20000 in
set_option maxHeartbeats 4000000 in
theorem r5sign_b (x : Int) (a : Option Addr) (n c : Nat) (l : List Nat) (w : World) (H : BW w a n c l) (hn : n ≤ 140737488354000) :
 Calls Tryz.prog 89 #[.int .i64 x, .slice a n c] w (SignPost (signK b x l) w) := by
 obtain ⟨X, hX⟩ : ∃ X, Hid (X = SignPost (signK b x l) w) := ⟨_, rfl⟩
 rw [← hX.out]
 have H' := Lib.hid H
 have hln := Lib.hid H.len
 have hpub := Lib.hid (fun W => r5public_b b hb4 hbase x W)
 clear H
 obtain ⟨tb, htb⟩ : ∃ tb, Hid (w.heap.size = tb) := ⟨_, rfl⟩
 cases hk : keyOk x with
 | false =>
  rw [publicK_f hk] at hpub
  have hs := signK_f (b := b) (msg := l) hk
  have hfin : Hid (∀ W, Below w.heap.size w W → X (.returned (.tuple #[.agg #[.int .i64 0, .int .i64 0], .int .i64 50])) W) := fun W h => by rw [hX.out]; unfold SignPost; rw [hs]; exact ⟨rfl, h⟩
  clear hs hbase
  go_enter Tryz.func89, Tryz.ntmps89
  go_wp2_with fail
  rw [htb.out]
  generalize hW : World.alloc w _ = W
  have hB : Hid (Blk W tb 34 [.int .i64 0, .int .i64 0]) := by rw [← hW, ← htb.out]; exact Blk.new w _ _
  have hb : Hid (Below w.heap.size w W) := by rw [← hW]; exact (Below.refl _ w).alloc (Nat.le_refl _) _
  clear hW
  refine (hpub.out W).mono ?_
  rintro e w1 ⟨rfl, rfl⟩
  have hP := Lib.hid (Put.mk' (ty := 34) (RES := [.int .i64 0, .int .i64 0]) hB.out rfl (by kernel_rfl) (by simp [Value.oneCell']))
  have hend := Lib.hid (hfin.out _ (below_grown hb.out hP.out.grw hb.out.size (Nat.le_of_eq htb.out)))
  go_wp2_with (first
   | (refine wpList_store_mid (by rfl) 34 (.tmp 4) (.tmp 22) (by rfl) tb 0 #[.int .i64 0, .int .i64 0] (by rfl) (by rfl) hP.out.th hP.out.inf hP.out.one ?_))
  exact ret_cell_tmpV (p := 4) (u := 5) rfl hP.out.blk Tryz.underlying34 rfl hP.out.inf rfl rfl rfl hend.out
 | true =>
  rw [publicK_t hk] at hpub
  obtain ⟨k, hkk⟩ : ∃ k, Hid (nonceK x l = k) := ⟨_, rfl⟩
  obtain ⟨p, hp⟩ : ∃ p, Hid (pubB b x = p) := ⟨_, rfl⟩
  obtain ⟨⟨r, r2⟩, hr⟩ : ∃ r, Hid (Grp.exp b k = r) := ⟨_, rfl⟩
  obtain ⟨h, hh⟩ : ∃ h, Hid (signH l r p = h) := ⟨_, rfl⟩
  obtain ⟨⟨m, m2⟩, hm⟩ : ∃ m, Hid (Fld.mul h x = m) := ⟨_, rfl⟩
  obtain ⟨⟨s, s2⟩, hs⟩ : ∃ s, Hid (Fld.add k m = s) := ⟨_, rfl⟩
  have hs2 : Hid (s2 = 0) := by
   have := signS_ok x h l
   unfold signS at this
   rw [hkk.out, hm.out, hs.out] at this
   exact this
  have hrp : pubB b k = r := by unfold pubB; rw [hr.out]
  have hsk : signK b x l = (r, s, 0) := by
   rw [signK_t hk, hkk.out, hp.out, hrp, hh.out]; unfold signS; rw [hm.out, hs.out, hs2.out]
  have hfin : Hid (∀ W, Below w.heap.size w W → X (.returned (.tuple #[.agg #[.int .i64 r, .int .i64 s], .int .i64 0])) W) := fun W h => by rw [hX.out]; unfold SignPost; rw [hsk]; exact ⟨rfl, h⟩
  have hpub2 : Hid (∀ W, Calls Tryz.prog 93 #[.int .i64 x] W (RetQQ (p, 0) W)) := fun W => by rw [← hp.out]; exact hpub.out W
  have hBk : Hid (∀ W, Calls Tryz.prog 138 #[.int .i64 k] W (RetQQ (r, r2) W)) := fun W => by rw [← hr.out]; exact hbase k W
  have hC : Hid (∀ W, BW W a n c l → Calls Tryz.prog 140 #[.int .i64 p, .int .i64 r, .slice a n c] W (fun e w' => e = .returned (.int .i64 h) ∧ Below W.heap.size W w')) := fun W h' => by rw [← hh.out]; exact r5chal_any p r a n c l W h' hn
  have hMm : Hid (∀ W, Calls Tryz.prog 139 #[.int .i64 h, .int .i64 x] W (RetQQ (m, m2) W)) := fun W => by rw [← hm.out]; exact r3mul_any h x W
  have hAd : Hid (∀ W, Calls Tryz.prog 141 #[.int .i64 k, .int .i64 m] W (RetQQ (s, s2) W)) := fun W => by rw [← hs.out]; exact r3add_any k m W
  have hns : Hid (((scalar (octets ⟨#[110, 111, 110, 99, 101]⟩) (numB x ++ l) : Nat) : Int) = k) := by
   show _ = _; rw [← hkk.out]; unfold nonceK hashK; rw [numsB_cons, show numsB [] = [] from rfl, List.append_nil]; rfl
  clear hbase hrp hsk hpub hk
  go_enter Tryz.func89, Tryz.ntmps89
  go_wp2_with fail
  rw [htb.out]
  generalize hW : World.alloc w _ = W
  have hB : Hid (Blk W tb 34 [.int .i64 0, .int .i64 0]) := by rw [← hW, ← htb.out]; exact Blk.new w _ _
  have hb : Hid (Below w.heap.size w W) := by rw [← hW]; exact (Below.refl _ w).alloc (Nat.le_refl _) _
  clear hW
  refine (hpub2.out W).mono ?_
  rintro e w1 ⟨rfl, rfl⟩
  go_wp2_with fail
  refine (r5bytes_any x _).mono ?_
  rintro e w2 ⟨v2, rfl, ho2, hb2⟩
  obtain ⟨v3, w3, hr3', ho3, hb3'⟩ := append_byL ho2 hb2.size hb2 (H'.out.below (hb.out.trans (hb2.mono hb.out.size))) (by simp only [numB_length]; omega)
  obtain ⟨a3, c3, rfl, hS3'⟩ := BS.own ho3.1 ho3.2
  have hr3 := Lib.hid hr3'; have hS3 := Lib.hid hS3'; have hb3 := Lib.hid (hb.out.trans (hb3'.mono hb.out.size)); have hB3 := Lib.hid (hB.out.below hb3' hB.out.lt)
  have hll : Hid ((numB x ++ l).length = n + 8) := by show _ = _; simp only [List.length_append, numB_length, hln.out]; omega
  rw [hll.out] at hr3 hS3
  clear ho2 hb2 hr3' ho3 hb3' hS3' hB hb
  go_wp2_with (first
   | (at_builtin; refine Lib.wpList_append_run _ rfl _ _ _ _ rfl _ _ rfl rfl _ _ (hr3.out _) ?_))
  refine (r4hash_any ⟨#[110, 111, 110, 99, 101]⟩ (by decide) _ _ _ _ w3 (bw_of hS3.out) (by omega)).mono ?_
  rintro e w4 ⟨rfl, hb4'⟩
  rw [hns.out]
  have hb5 := Lib.hid (hb3.out.trans (hb4'.mono hb3.out.size)); have hB5 := Lib.hid (hB3.out.below hb4' hB3.out.lt)
  clear hb4' hb3 hB3 hS3 hr3 hll
  go_wp2_with fail
  refine (hBk.out _).mono ?_
  rintro e w6 ⟨rfl, rfl⟩
  go_wp2_with fail
  refine (hC.out _ (H'.out.below hb5.out)).mono ?_
  rintro e w7 ⟨rfl, hb7'⟩
  have hb7 := Lib.hid (hb5.out.trans (hb7'.mono hb5.out.size)); have hB7 := Lib.hid (hB5.out.below hb7' hB5.out.lt)
  clear hb7' hb5 hB5
  go_wp2_with fail
  refine (hMm.out _).mono ?_
  rintro e w8 ⟨rfl, rfl⟩
  go_wp2_with fail
  refine (hAd.out _).mono ?_
  rintro e w9 ⟨rfl, rfl⟩
  have hP := Lib.hid (Put.mk' (ty := 34) (RES := [.int .i64 r, .int .i64 s]) hB7.out rfl (by kernel_rfl) (by simp [Value.oneCell']))
  have hend := Lib.hid (hfin.out _ (below_grown hb7.out hP.out.grw hb7.out.size (Nat.le_of_eq htb.out)))
  go_wp2_with (first
   | (refine wpList_store_mid (by rfl) 34 (.tmp 4) (.tmp 51) (by rfl) tb 0 #[.int .i64 r, .int .i64 s] (by rfl) (by rfl) hP.out.th hP.out.inf hP.out.one ?_))
  exact ret_cell_tmpV (p := 4) (u := 5) rfl hP.out.blk Tryz.underlying34 rfl hP.out.inf rfl rfl rfl hend.out
end
end Go.Proofs.YtnonfdcbnkdmcaaGreatDoor
