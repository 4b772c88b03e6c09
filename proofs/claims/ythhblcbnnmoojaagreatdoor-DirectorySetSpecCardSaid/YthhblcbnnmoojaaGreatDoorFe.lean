/- the reference 35: New, Few, SameListings, SameRoots, Same (of equal values) -/
import Derived.Test.YthhblcbnnmoojaaGreatDoorFc
import Derived.Test.YthhblcbnnmoojaaGreatDoorRb
import Derived.Test.YthhblcbnnmoojaaGreatDoorRc
import Derived.Test.YthhblcbnnmoojaaGreatDoorRa
namespace Go.Proofs.YthhblcbnnmoojaaGreatDoor
open Go.RowKit Go.Mem
open Go.Dr (Lst Rt Dir)

set_option maxHeartbeats 400000 in
theorem r5private_any (x : Int) (w : World) : Calls Tryz.prog 52 #[.int .i64 x] w (RetQ (.bool (keyOk x)) w) := by
 by_cases h0 : 1 ≤ x
 · have h0' : decide (1 ≤ x) = true := by simpa using h0
   by_cases h1 : x < 2305843009213688669
   · have h1' : decide (x < 2305843009213688669) = true := by simpa using h1
     have hr : Hid (keyOk x = true) := by show _ = _; unfold keyOk; simp [h0, h1]
     rw [hr.out]
     go_enter Tryz.func52, Tryz.ntmps52
     go_wp2_with fail
     go_ret
     exact ⟨rfl, rfl⟩
   · have h1' : decide (x < 2305843009213688669) = false := by simpa using h1
     have hr : Hid (keyOk x = false) := by show _ = _; unfold keyOk; simp; omega
     rw [hr.out]
     go_enter Tryz.func52, Tryz.ntmps52
     go_wp2_with fail
     go_ret
     exact ⟨rfl, rfl⟩
 · have h0' : decide (1 ≤ x) = false := by simpa using h0
   have hr : Hid (keyOk x = false) := by show _ = _; unfold keyOk; simp; omega
   rw [hr.out]
   go_enter Tryz.func52, Tryz.ntmps52
   go_wp2_with fail
   go_ret
   exact ⟨rfl, rfl⟩

theorem ok_err (b : Int) (hb : Grp.ok b = true) (x : Int) (hk : keyOk x = true) : (Grp.exp b x).2 = 0 := by
 unfold keyOk at hk
 have h := of_decide_eq_true hk
 unfold Grp.exp; rw [if_pos hb, if_pos (by omega)]
section
variable (b : Int) (hb4 : Grp.ok b = true) (hbase : ∀ (S : Int) (W : World), Calls Tryz.prog 97 #[.int .i64 S] W (RetQQ (Grp.exp b S) W))
include hb4 hbase
set_option maxHeartbeats 1000000 in
theorem r5public_b (x : Int) (w : World) : Calls Tryz.prog 109 #[.int .i64 x] w (RetQQ (publicK b x) w) := by
 have hpv := Lib.hid (r5private_any x w)
 have hbs := Lib.hid (hbase x w)
 clear hbase
 cases hk : keyOk x with
 | false =>
  rw [hk] at hpv
  rw [publicK_f hk]
  go_enter Tryz.func109, Tryz.ntmps109
  go_wp2_with fail
  refine hpv.out.mono ?_
  rintro e w1 ⟨rfl, rfl⟩
  go_wp2_with fail
  go_ret2
  exact ⟨rfl, rfl⟩
 | true =>
  rw [hk] at hpv
  have he : Grp.exp b x = (pubB b x, 0) := by rw [← ok_err b hb4 x hk]; rfl
  rw [publicK_t hk, ← he]
  obtain ⟨⟨q1, q2⟩, hq⟩ : ∃ q, Hid (Grp.exp b x = q) := ⟨_, rfl⟩
  rw [hq.out] at hbs ⊢
  clear he hk
  go_enter Tryz.func109, Tryz.ntmps109
  go_wp2_with fail
  refine hpv.out.mono ?_
  rintro e w1 ⟨rfl, rfl⟩
  go_wp2_with fail
  refine hbs.out.mono ?_
  rintro e w2 ⟨rfl, rfl⟩
  go_wp2_with fail
  go_ret2
  exact ⟨rfl, rfl⟩
end
theorem nonce_in (x : Int) (l : List Nat) : Fld.out (nonceK x l) = false := by
 unfold nonceK hashK scalar Fld.out
 have := restOf_lt 2305843009213688668 (by omega) (Sha.tagged [110, 111, 110, 99, 101] (numsB [x] ++ l))
 rw [decide_eq_false]; omega
theorem mul_in (a b : Int) : Fld.out (Fld.mul a b).1 = false := by
 unfold Fld.mul Fld.out; split <;> (rw [decide_eq_false]; first | omega | (simp only []; omega))
theorem signS_ok (x h : Int) (l : List Nat) : (signS (nonceK x l) h x).2 = 0 := by
 unfold signS Fld.add; rw [nonce_in, mul_in]; rfl

section
variable (b : Int) (hb4 : Grp.ok b = true) (hbase : ∀ (S : Int) (W : World), Calls Tryz.prog 97 #[.int .i64 S] W (RetQQ (Grp.exp b S) W))
include hb4 hbase
set_option maxRecDepth 20000 in
set_option maxHeartbeats 4000000 in
theorem r5sign_b (x : Int) (a : Option Addr) (n c : Nat) (l : List Nat) (w : World) (H : BW w a n c l) (hn : n ≤ 140737488354000) :
 Calls Tryz.prog 64 #[.int .i64 x, .slice a n c] w (SignPost (signK b x l) w) := by
 obtain ⟨X, hX⟩ : ∃ X, Hid (X = SignPost (signK b x l) w) := ⟨_, rfl⟩
 rw [← hX.out]
 have H' := Lib.hid H
 have hln := Lib.hid H.len
 have hpub := Lib.hid (fun W => r5public_b b hb4 hbase x W)
 clear H
 obtain ⟨tb, htb⟩ : ∃ tb, Hid (w.heap.size = tb) := ⟨_, rfl⟩
 cases hk : keyOk x with
 | false =>
  rw [publicK_f hk] at hpub
  have hs := signK_f (b := b) (msg := l) hk
  have hfin : Hid (∀ W, Below w.heap.size w W → X (.returned (.tuple #[.agg #[.int .i64 0, .int .i64 0], .int .i64 50])) W) := fun W h => by rw [hX.out]; unfold SignPost; rw [hs]; exact ⟨rfl, h⟩
  clear hs hbase
  go_enter Tryz.func64, Tryz.ntmps64
  go_wp2_with fail
  rw [htb.out]
  generalize hW : World.alloc w _ = W
  have hB : Hid (Blk W tb 25 [.int .i64 0, .int .i64 0]) := by rw [← hW, ← htb.out]; exact Blk.new w _ _
  have hb : Hid (Below w.heap.size w W) := by rw [← hW]; exact (Below.refl _ w).alloc (Nat.le_refl _) _
  clear hW
  refine (hpub.out W).mono ?_
  rintro e w1 ⟨rfl, rfl⟩
  have hP := Lib.hid (Put.mk' (ty := 25) (RES := [.int .i64 0, .int .i64 0]) hB.out rfl (by kernel_rfl) (by simp [Value.oneCell']))
  have hend := Lib.hid (hfin.out _ (below_grown hb.out hP.out.grw hb.out.size (Nat.le_of_eq htb.out)))
  go_wp2_with (first
   | (refine wpList_store_mid (by rfl) 25 (.tmp 4) (.tmp 22) (by rfl) tb 0 #[.int .i64 0, .int .i64 0] (by rfl) (by rfl) hP.out.th hP.out.inf hP.out.one ?_))
  exact ret_cell_tmp (p := 4) (u := 5) rfl hP.out.blk Tryz.underlying25 rfl hP.out.inf rfl rfl rfl hend.out
 | true =>
  rw [publicK_t hk] at hpub
  obtain ⟨k, hkk⟩ : ∃ k, Hid (nonceK x l = k) := ⟨_, rfl⟩
  obtain ⟨p, hp⟩ : ∃ p, Hid (pubB b x = p) := ⟨_, rfl⟩
  obtain ⟨⟨r, r2⟩, hr⟩ : ∃ r, Hid (Grp.exp b k = r) := ⟨_, rfl⟩
  obtain ⟨h, hh⟩ : ∃ h, Hid (signH l r p = h) := ⟨_, rfl⟩
  obtain ⟨⟨m, m2⟩, hm⟩ : ∃ m, Hid (Fld.mul h x = m) := ⟨_, rfl⟩
  obtain ⟨⟨s, s2⟩, hs⟩ : ∃ s, Hid (Fld.add k m = s) := ⟨_, rfl⟩
  have hs2 : Hid (s2 = 0) := by
   have := signS_ok x h l
   unfold signS at this
   rw [hkk.out, hm.out, hs.out] at this
   exact this
  have hrp : pubB b k = r := by unfold pubB; rw [hr.out]
  have hsk : signK b x l = (r, s, 0) := by
   rw [signK_t hk, hkk.out, hp.out, hrp, hh.out]; unfold signS; rw [hm.out, hs.out, hs2.out]
  have hfin : Hid (∀ W, Below w.heap.size w W → X (.returned (.tuple #[.agg #[.int .i64 r, .int .i64 s], .int .i64 0])) W) := fun W h => by rw [hX.out]; unfold SignPost; rw [hsk]; exact ⟨rfl, h⟩
  have hpub2 : Hid (∀ W, Calls Tryz.prog 109 #[.int .i64 x] W (RetQQ (p, 0) W)) := fun W => by rw [← hp.out]; exact hpub.out W
  have hBk : Hid (∀ W, Calls Tryz.prog 97 #[.int .i64 k] W (RetQQ (r, r2) W)) := fun W => by rw [← hr.out]; exact hbase k W
  have hC : Hid (∀ W, BW W a n c l → Calls Tryz.prog 99 #[.int .i64 p, .int .i64 r, .slice a n c] W (fun e w' => e = .returned (.int .i64 h) ∧ Below W.heap.size W w')) := fun W h' => by rw [← hh.out]; exact r5chal_any p r a n c l W h' hn
  have hMm : Hid (∀ W, Calls Tryz.prog 111 #[.int .i64 h, .int .i64 x] W (RetQQ (m, m2) W)) := fun W => by rw [← hm.out]; exact r3mul_any h x W
  have hAd : Hid (∀ W, Calls Tryz.prog 112 #[.int .i64 k, .int .i64 m] W (RetQQ (s, s2) W)) := fun W => by rw [← hs.out]; exact r3add_any k m W
  have hns : Hid (((scalar (octets ⟨#[110, 111, 110, 99, 101]⟩) (numB x ++ l) : Nat) : Int) = k) := by
   show _ = _; rw [← hkk.out]; unfold nonceK hashK; rw [numsB_cons, show numsB [] = [] from rfl, List.append_nil]; rfl
  clear hbase hrp hsk hpub hk
  go_enter Tryz.func64, Tryz.ntmps64
  go_wp2_with fail
  rw [htb.out]
  generalize hW : World.alloc w _ = W
  have hB : Hid (Blk W tb 25 [.int .i64 0, .int .i64 0]) := by rw [← hW, ← htb.out]; exact Blk.new w _ _
  have hb : Hid (Below w.heap.size w W) := by rw [← hW]; exact (Below.refl _ w).alloc (Nat.le_refl _) _
  clear hW
  refine (hpub2.out W).mono ?_
  rintro e w1 ⟨rfl, rfl⟩
  go_wp2_with fail
  refine (r5bytes_any x _).mono ?_
  rintro e w2 ⟨v2, rfl, ho2, hb2⟩
  obtain ⟨v3, w3, hr3', ho3, hb3'⟩ := append_byL ho2 hb2.size hb2 (H'.out.below (hb.out.trans (hb2.mono hb.out.size))) (by simp only [numB_length]; omega)
  obtain ⟨a3, c3, rfl, hS3'⟩ := BS.own ho3.1 ho3.2
  have hr3 := Lib.hid hr3'; have hS3 := Lib.hid hS3'; have hb3 := Lib.hid (hb.out.trans (hb3'.mono hb.out.size)); have hB3 := Lib.hid (hB.out.below hb3' hB.out.lt)
  have hll : Hid ((numB x ++ l).length = n + 8) := by show _ = _; simp only [List.length_append, numB_length, hln.out]; omega
  rw [hll.out] at hr3 hS3
  clear ho2 hb2 hr3' ho3 hb3' hS3' hB hb
  go_wp2_with (first
   | (at_builtin; refine Lib.wpList_append_run _ rfl _ _ _ _ rfl _ _ rfl rfl _ _ (hr3.out _) ?_))
  refine (r4hash_any ⟨#[110, 111, 110, 99, 101]⟩ (by decide) _ _ _ _ w3 (bw_of hS3.out) (by omega)).mono ?_
  rintro e w4 ⟨rfl, hb4'⟩
  rw [hns.out]
  have hb5 := Lib.hid (hb3.out.trans (hb4'.mono hb3.out.size)); have hB5 := Lib.hid (hB3.out.below hb4' hB3.out.lt)
  clear hb4' hb3 hB3 hS3 hr3 hll
  go_wp2_with fail
  refine (hBk.out _).mono ?_
  rintro e w6 ⟨rfl, rfl⟩
  go_wp2_with fail
  refine (hC.out _ (H'.out.below hb5.out)).mono ?_
  rintro e w7 ⟨rfl, hb7'⟩
  have hb7 := Lib.hid (hb5.out.trans (hb7'.mono hb5.out.size)); have hB7 := Lib.hid (hB5.out.below hb7' hB5.out.lt)
  clear hb7' hb5 hB5
  go_wp2_with fail
  refine (hMm.out _).mono ?_
  rintro e w8 ⟨rfl, rfl⟩
  go_wp2_with fail
  refine (hAd.out _).mono ?_
  rintro e w9 ⟨rfl, rfl⟩
  have hP := Lib.hid (Put.mk' (ty := 25) (RES := [.int .i64 r, .int .i64 s]) hB7.out rfl (by kernel_rfl) (by simp [Value.oneCell']))
  have hend := Lib.hid (hfin.out _ (below_grown hb7.out hP.out.grw hb7.out.size (Nat.le_of_eq htb.out)))
  go_wp2_with (first
   | (refine wpList_store_mid (by rfl) 25 (.tmp 4) (.tmp 51) (by rfl) tb 0 #[.int .i64 r, .int .i64 s] (by rfl) (by rfl) hP.out.th hP.out.inf hP.out.one ?_))
  exact ret_cell_tmp (p := 4) (u := 5) rfl hP.out.blk Tryz.underlying25 rfl hP.out.inf rfl rfl rfl hend.out
end
end Go.Proofs.YthhblcbnnmoojaaGreatDoor
namespace Go.Proofs.YthhblcbnnmoojaaGreatDoor
open Go.RowKit Go.Mem
open Go.Dr (Lst Rt Dir)

theorem cellsLs5 : Tryz.prog.cellsOf 36 = 5 := by kernel_rfl
theorem cellsBo1 : Tryz.prog.cellsOf 4 = 1 := by kernel_rfl
theorem keyTL : Tryz.prog.keyTypeAt 2 36 = true := by kernel_rfl
theorem keyLits_bool (D : Nat) (b : Bool) : Tryz.prog.keyLits (D + 1) 4 [.bool b] = some [.bool b] := by
 unfold Program.keyLits
 rw [Tryz.underlying4]
def litG (x : Lst) : List Lit := [.int .i64 x.dev, .int .i64 x.ver, .int .i64 x.leaf, .int .i64 x.vers, .bool x.gone]
theorem keyLits_lst (D : Nat) {x : Lst} (ok : OkG x) : Tryz.prog.keyLits (D + 2) 36 (gC x) = some (litG x) := by
 have q0 := keyLits_int D ok.dev
 have q1 := keyLits_int D ok.ver
 have q2 := keyLits_int D ok.leaf
 have q3 := keyLits_int D ok.vers
 have q4 := keyLits_bool D x.gone
 unfold Program.keyLits gC
 rw [Tryz.underlying36]
 simp only [cellsLs5, List.length_cons, List.length_nil]
 simp [cellsI, cellsBo1, q0, q1, q2, q3, q4, litG]
theorem formed_lst (x : Lst) : (Value.agg (gC x).toArray).formed Tryz.prog 36 = true := by
 simp [Value.formed, gC, cellsLs5]
theorem eq_lst {x : Lst} (ha : OkG x) (w : World) : (Op.equalIn 10000 36 (.agg (gC x).toArray) (.agg (gC x).toArray)).run Tryz.prog w = .ok true w := by
 obtain ⟨r, hr, hiff⟩ := run_equalIn_deep (P := Tryz.prog) 9998 2 36 keyTL w 2 2 (.agg (gC x).toArray) (.agg (gC x).toArray) (litG x) (litG x) (formed_lst x) (formed_lst x)
  (by simpa [Value.cells] using keyLits_lst 0 ha) (by simpa [Value.cells] using keyLits_lst 0 ha)
 have e : r = true := hiff.2 rfl
 rw [← e]
 exact hr
theorem qs_at {K : Nat → Prop} {w : World} {b off n c : Nat} {l : List Rt} (h : QS K w (some ⟨b, off, none⟩) n c l) {k : Nat} {x : Rt} (hx : l[k]? = some x) : w.rangeAt b (off + k * 67) (rC x) := by
 obtain ⟨b', o', e, _, _, _, hr⟩ := h.cells hx
 cases e; exact hr
theorem gs_at {K : Nat → Prop} {w : World} {b off n c : Nat} {l : List Lst} (h : GS K w (some ⟨b, off, none⟩) n c l) {k : Nat} {x : Lst} (hx : l[k]? = some x) : w.rangeAt b (off + k * 5) (gC x) := by
 obtain ⟨b', o', e, _, _, _, hr⟩ := h.cells hx
 cases e; exact hr

set_option maxRecDepth 20000 in
set_option maxHeartbeats 2000000 in
theorem r35sameR_any (K K2 : Nat → Prop) (l : List Rt) (a : Option Addr) (n c : Nat) (a2 : Option Addr) (c2 : Nat) (w : World) (H : QS K w a n c l) (H2 : QS K2 w a2 n c2 l) :
 Calls Tryz.prog 66 #[.slice a n c, .slice a2 n c2] w (RetBo true w) := by
 have H' := Lib.hid H; have H2' := Lib.hid H2
 have hlen := RS.len H
 have n63 : (n : Int) ≤ 9223372036854775807 := by have := RS.le H; have := RS.max H; omega
 clear H H2
 obtain ⟨X, hX⟩ : ∃ X, X = RetBo true w := ⟨_, rfl⟩
 have hfin : Hid (∀ W, Below w.heap.size w W → X (.returned (.bool true)) W) := fun W h => by rw [hX]; exact ⟨rfl, h⟩
 rw [← hX]
 clear hX
 go_enter Tryz.func66, Tryz.ntmps66
 go_wp2_with fail
 go_loopw [5] (fun i wr => ∃ k : Nat, k ≤ n ∧ i = .int .i64 k ∧ Hid (Below w.heap.size w wr)) (fun i _ => n - (intOf i).toNat)
 case atStart => exact ⟨0, Nat.zero_le _, rfl, Below.refl _ _⟩
 case round =>
  obtain ⟨k, hk, rfl, hb⟩ := hrel
  by_cases hlt : k < n
  · obtain ⟨x, hx⟩ : ∃ x, l[k]? = some x := ⟨_, List.getElem?_eq_getElem (by omega)⟩
    obtain ⟨b1, o1, rfl, _, _, hox, _⟩ := (H'.out.below hb.out).cells hx
    obtain ⟨b2, o2, rfl, _, _, _, _⟩ := (H2'.out.below hb.out).cells hx
    have h1 : Hid (∀ wz, Below wr.heap.size wr wz → wz.rangeAt b1 (o1 + k * 67) (rC x)) := fun wz h => qs_at ((H'.out.below hb.out).below h) hx
    have h2 : Hid (∀ wz, Below wr.heap.size wr wz → wz.rangeAt b2 (o2 + k * 67) (rC x)) := fun wz h => qs_at ((H2'.out.below hb.out).below h) hx
    have hri : Hid ((Tryz.prog.info? 27).map (·.size) = some (rC x).length) := by show _ = _; rw [rC_length hox]; exact sizeR
    have heq : ∀ W, (Op.equalIn 10000 27 (.agg (rC x).toArray) (.agg (rC x).toArray)).run Tryz.prog W = .ok true W := fun W => by have h := eq_root hox hox W; rwa [Go.Dr.eqR_refl] at h
    obtain ⟨rr, hre⟩ : ∃ rr, Hid (rC x = rr) := ⟨_, rfl⟩
    rw [hre.out] at h1 h2 hri heq
    have k0 : (0 : Int) ≤ (k : Int) := by omega
    have k1 : (k : Int) < (n : Int) := by omega
    clear hx hox
    go_upto_region 6 with fail
    refine wp_region_held_drew (S := fun wz => Below wr.heap.size wr wz) (by kernel_rfl) ((Below.refl _ wr).drew) (fun hHeld => ?_)
    generalize hWd : wr.drew = Wd at *
    clear hWd
    refine wpAnyH_take (i := 0) (oi := ⟨some 17, .move (.tmp 0), 32, "ref.go:210", #[], none⟩) (v := ?_) rfl (by kernel_rfl) (by kernel_rfl) (by kernel_rfl) (fun _ _ _ h => h) (Or.inl ⟨by rfl, ?_⟩) hHeld ?_
    rotate_left
    · intro wz hSw
      go_simp
      all_goals (with_reducible rfl)
    try simp only [Act.put, List.setIfInBounds_toArray, List.set_cons_zero, List.set_cons_succ]
    refine wpAnyH_take (i := 1) (oi := ⟨some 18, .move (.tmp 5), 3, "ref.go:210", #[], none⟩) (v := ?_) rfl (by kernel_rfl) (by kernel_rfl) (by kernel_rfl) (fun _ _ _ h => h) (Or.inl ⟨by rfl, ?_⟩) hHeld ?_
    rotate_left
    · intro wz hSw
      go_simp
      all_goals (with_reducible rfl)
    try simp only [Act.put, List.setIfInBounds_toArray, List.set_cons_zero, List.set_cons_succ]
    refine wpAnyH_take (i := 2) (oi := ⟨some 19, .indexAddr 32 (.tmp 17) (.tmp 18), 0, "ref.go:210", #[⟨0, .data⟩, ⟨1, .data⟩], none⟩) (v := ?_) rfl (by kernel_rfl) (by kernel_rfl) (by kernel_rfl) (fun _ _ _ h => h) (Or.inl ⟨by rfl, ?_⟩) hHeld ?_
    rotate_left
    · intro wz hSw
      go_simp
      all_goals (with_reducible rfl)
    try simp only [Act.put, List.setIfInBounds_toArray, List.set_cons_zero, List.set_cons_succ]
    refine wpAnyH_take (i := 3) (oi := ⟨some 20, .load 27 (.tmp 19), 27, "ref.go:210", #[⟨2, .data⟩], none⟩) rfl (by kernel_rfl) (by kernel_rfl) (by kernel_rfl) (fun _ _ _ h => h) (yieldsIf_load_mid (by rfl) _ _ rfl b1 (o1 + k * 67) rfl (rr) _ (fun wz h => h1.out wz h) Tryz.underlying27 rfl (hri.out)) hHeld ?_
    try simp only [Act.put, List.setIfInBounds_toArray, List.set_cons_zero, List.set_cons_succ]
    refine wpAnyH_take (i := 4) (oi := ⟨some 21, .move (.tmp 1), 32, "ref.go:210", #[], none⟩) (v := ?_) rfl (by kernel_rfl) (by kernel_rfl) (by kernel_rfl) (fun _ _ _ h => h) (Or.inl ⟨by rfl, ?_⟩) hHeld ?_
    rotate_left
    · intro wz hSw
      go_simp
      all_goals (with_reducible rfl)
    try simp only [Act.put, List.setIfInBounds_toArray, List.set_cons_zero, List.set_cons_succ]
    refine wpAnyH_take (i := 5) (oi := ⟨some 22, .move (.tmp 5), 3, "ref.go:210", #[], none⟩) (v := ?_) rfl (by kernel_rfl) (by kernel_rfl) (by kernel_rfl) (fun _ _ _ h => h) (Or.inl ⟨by rfl, ?_⟩) hHeld ?_
    rotate_left
    · intro wz hSw
      go_simp
      all_goals (with_reducible rfl)
    try simp only [Act.put, List.setIfInBounds_toArray, List.set_cons_zero, List.set_cons_succ]
    refine wpAnyH_take (i := 6) (oi := ⟨some 23, .indexAddr 32 (.tmp 21) (.tmp 22), 0, "ref.go:210", #[⟨4, .data⟩, ⟨5, .data⟩], none⟩) (v := ?_) rfl (by kernel_rfl) (by kernel_rfl) (by kernel_rfl) (fun _ _ _ h => h) (Or.inl ⟨by rfl, ?_⟩) hHeld ?_
    rotate_left
    · intro wz hSw
      go_simp
      all_goals (with_reducible rfl)
    try simp only [Act.put, List.setIfInBounds_toArray, List.set_cons_zero, List.set_cons_succ]
    refine wpAnyH_take (i := 7) (oi := ⟨some 24, .load 27 (.tmp 23), 27, "ref.go:210", #[⟨6, .data⟩], none⟩) rfl (by kernel_rfl) (by kernel_rfl) (by kernel_rfl) (fun _ _ _ h => h) (yieldsIf_load_mid (by rfl) _ _ rfl b2 (o2 + k * 67) rfl (rr) _ (fun wz h => h2.out wz h) Tryz.underlying27 rfl (hri.out)) hHeld ?_
    try simp only [Act.put, List.setIfInBounds_toArray, List.set_cons_zero, List.set_cons_succ]
    refine wpAnyH_take (i := 8) (oi := ⟨some 25, .binOp .neq 27 (.tmp 20) (.tmp 24) 27, 4, "ref.go:210", #[⟨3, .data⟩, ⟨7, .data⟩], none⟩) (v := ?_) rfl (by kernel_rfl) (by kernel_rfl) (by kernel_rfl) (fun _ _ _ h => h) (Or.inl ⟨by rfl, ?_⟩) hHeld ?_
    rotate_left
    · intro wz hSw
      have hq' := heq
      go_simp
      all_goals (with_reducible rfl)
    try simp only [Act.put, List.setIfInBounds_toArray, List.set_cons_zero, List.set_cons_succ]
    refine wpAnyH_done (by kernel_rfl) ?_ _
    have hb2 := Lib.hid (hb.out.trans (hHeld.mono hb.out.size))
    clear hHeld heq
    go_wp2_with fail
    go_roundw
    case rel => exact ⟨k + 1, by omega, by go_num, hb2⟩
    case measure => simp [intOf]; omega
  · obtain rfl : k = n := by omega
    have hend := hfin.out _ hb.out
    go_wp2_with fail
    exact hend

set_option maxRecDepth 20000 in
set_option maxHeartbeats 2000000 in
theorem r35sameG_any (K K2 : Nat → Prop) (l : List Lst) (a : Option Addr) (n c : Nat) (a2 : Option Addr) (c2 : Nat) (w : World) (H : GS K w a n c l) (H2 : GS K2 w a2 n c2 l) :
 Calls Tryz.prog 65 #[.slice a n c, .slice a2 n c2] w (RetBo true w) := by
 have H' := Lib.hid H; have H2' := Lib.hid H2
 have hlen := RS.len H
 have n63 : (n : Int) ≤ 9223372036854775807 := by have := RS.le H; have := RS.max H; omega
 clear H H2
 obtain ⟨X, hX⟩ : ∃ X, X = RetBo true w := ⟨_, rfl⟩
 have hfin : Hid (∀ W, Below w.heap.size w W → X (.returned (.bool true)) W) := fun W h => by rw [hX]; exact ⟨rfl, h⟩
 rw [← hX]
 clear hX
 go_enter Tryz.func65, Tryz.ntmps65
 go_wp2_with fail
 go_loopw [5] (fun i wr => ∃ k : Nat, k ≤ n ∧ i = .int .i64 k ∧ Hid (Below w.heap.size w wr)) (fun i _ => n - (intOf i).toNat)
 case atStart => exact ⟨0, Nat.zero_le _, rfl, Below.refl _ _⟩
 case round =>
  obtain ⟨k, hk, rfl, hb⟩ := hrel
  by_cases hlt : k < n
  · obtain ⟨x, hx⟩ : ∃ x, l[k]? = some x := ⟨_, List.getElem?_eq_getElem (by omega)⟩
    obtain ⟨b1, o1, rfl, _, _, hox, _⟩ := (H'.out.below hb.out).cells hx
    obtain ⟨b2, o2, rfl, _, _, _, _⟩ := (H2'.out.below hb.out).cells hx
    have h1 : Hid (∀ wz, Below wr.heap.size wr wz → wz.rangeAt b1 (o1 + k * 5) (gC x)) := fun wz h => gs_at ((H'.out.below hb.out).below h) hx
    have h2 : Hid (∀ wz, Below wr.heap.size wr wz → wz.rangeAt b2 (o2 + k * 5) (gC x)) := fun wz h => gs_at ((H2'.out.below hb.out).below h) hx
    have hri : Hid ((Tryz.prog.info? 36).map (·.size) = some (gC x).length) := by show _ = _; exact sizeG
    have heq : ∀ W, (Op.equalIn 10000 36 (.agg (gC x).toArray) (.agg (gC x).toArray)).run Tryz.prog W = .ok true W := fun W => eq_lst hox W
    obtain ⟨rr, hre⟩ : ∃ rr, Hid (gC x = rr) := ⟨_, rfl⟩
    rw [hre.out] at h1 h2 hri heq
    have k0 : (0 : Int) ≤ (k : Int) := by omega
    have k1 : (k : Int) < (n : Int) := by omega
    clear hx hox
    go_upto_region 6 with fail
    refine wp_region_held_drew (S := fun wz => Below wr.heap.size wr wz) (by kernel_rfl) ((Below.refl _ wr).drew) (fun hHeld => ?_)
    generalize hWd : wr.drew = Wd at *
    clear hWd
    refine wpAnyH_take (i := 0) (oi := ⟨some 17, .move (.tmp 0), 31, "ref.go:197", #[], none⟩) (v := ?_) rfl (by kernel_rfl) (by kernel_rfl) (by kernel_rfl) (fun _ _ _ h => h) (Or.inl ⟨by rfl, ?_⟩) hHeld ?_
    rotate_left
    · intro wz hSw
      go_simp
      all_goals (with_reducible rfl)
    try simp only [Act.put, List.setIfInBounds_toArray, List.set_cons_zero, List.set_cons_succ]
    refine wpAnyH_take (i := 1) (oi := ⟨some 18, .move (.tmp 5), 3, "ref.go:197", #[], none⟩) (v := ?_) rfl (by kernel_rfl) (by kernel_rfl) (by kernel_rfl) (fun _ _ _ h => h) (Or.inl ⟨by rfl, ?_⟩) hHeld ?_
    rotate_left
    · intro wz hSw
      go_simp
      all_goals (with_reducible rfl)
    try simp only [Act.put, List.setIfInBounds_toArray, List.set_cons_zero, List.set_cons_succ]
    refine wpAnyH_take (i := 2) (oi := ⟨some 19, .indexAddr 31 (.tmp 17) (.tmp 18), 0, "ref.go:197", #[⟨0, .data⟩, ⟨1, .data⟩], none⟩) (v := ?_) rfl (by kernel_rfl) (by kernel_rfl) (by kernel_rfl) (fun _ _ _ h => h) (Or.inl ⟨by rfl, ?_⟩) hHeld ?_
    rotate_left
    · intro wz hSw
      go_simp
      all_goals (with_reducible rfl)
    try simp only [Act.put, List.setIfInBounds_toArray, List.set_cons_zero, List.set_cons_succ]
    refine wpAnyH_take (i := 3) (oi := ⟨some 20, .load 36 (.tmp 19), 36, "ref.go:197", #[⟨2, .data⟩], none⟩) rfl (by kernel_rfl) (by kernel_rfl) (by kernel_rfl) (fun _ _ _ h => h) (yieldsIf_load_mid (by rfl) _ _ rfl b1 (o1 + k * 5) rfl (rr) _ (fun wz h => h1.out wz h) Tryz.underlying36 rfl (hri.out)) hHeld ?_
    try simp only [Act.put, List.setIfInBounds_toArray, List.set_cons_zero, List.set_cons_succ]
    refine wpAnyH_take (i := 4) (oi := ⟨some 21, .move (.tmp 1), 31, "ref.go:197", #[], none⟩) (v := ?_) rfl (by kernel_rfl) (by kernel_rfl) (by kernel_rfl) (fun _ _ _ h => h) (Or.inl ⟨by rfl, ?_⟩) hHeld ?_
    rotate_left
    · intro wz hSw
      go_simp
      all_goals (with_reducible rfl)
    try simp only [Act.put, List.setIfInBounds_toArray, List.set_cons_zero, List.set_cons_succ]
    refine wpAnyH_take (i := 5) (oi := ⟨some 22, .move (.tmp 5), 3, "ref.go:197", #[], none⟩) (v := ?_) rfl (by kernel_rfl) (by kernel_rfl) (by kernel_rfl) (fun _ _ _ h => h) (Or.inl ⟨by rfl, ?_⟩) hHeld ?_
    rotate_left
    · intro wz hSw
      go_simp
      all_goals (with_reducible rfl)
    try simp only [Act.put, List.setIfInBounds_toArray, List.set_cons_zero, List.set_cons_succ]
    refine wpAnyH_take (i := 6) (oi := ⟨some 23, .indexAddr 31 (.tmp 21) (.tmp 22), 0, "ref.go:197", #[⟨4, .data⟩, ⟨5, .data⟩], none⟩) (v := ?_) rfl (by kernel_rfl) (by kernel_rfl) (by kernel_rfl) (fun _ _ _ h => h) (Or.inl ⟨by rfl, ?_⟩) hHeld ?_
    rotate_left
    · intro wz hSw
      go_simp
      all_goals (with_reducible rfl)
    try simp only [Act.put, List.setIfInBounds_toArray, List.set_cons_zero, List.set_cons_succ]
    refine wpAnyH_take (i := 7) (oi := ⟨some 24, .load 36 (.tmp 23), 36, "ref.go:197", #[⟨6, .data⟩], none⟩) rfl (by kernel_rfl) (by kernel_rfl) (by kernel_rfl) (fun _ _ _ h => h) (yieldsIf_load_mid (by rfl) _ _ rfl b2 (o2 + k * 5) rfl (rr) _ (fun wz h => h2.out wz h) Tryz.underlying36 rfl (hri.out)) hHeld ?_
    try simp only [Act.put, List.setIfInBounds_toArray, List.set_cons_zero, List.set_cons_succ]
    refine wpAnyH_take (i := 8) (oi := ⟨some 25, .binOp .neq 36 (.tmp 20) (.tmp 24) 36, 4, "ref.go:197", #[⟨3, .data⟩, ⟨7, .data⟩], none⟩) (v := ?_) rfl (by kernel_rfl) (by kernel_rfl) (by kernel_rfl) (fun _ _ _ h => h) (Or.inl ⟨by rfl, ?_⟩) hHeld ?_
    rotate_left
    · intro wz hSw
      have hq' := heq
      go_simp
      all_goals (with_reducible rfl)
    try simp only [Act.put, List.setIfInBounds_toArray, List.set_cons_zero, List.set_cons_succ]
    refine wpAnyH_done (by kernel_rfl) ?_ _
    have hb2 := Lib.hid (hb.out.trans (hHeld.mono hb.out.size))
    clear hHeld heq
    go_wp2_with fail
    go_roundw
    case rel => exact ⟨k + 1, by omega, by go_num, hb2⟩
    case measure => simp [intOf]; omega
  · obtain rfl : k = n := by omega
    have hend := hfin.out _ hb.out
    go_wp2_with fail
    exact hend

theorem dirC_blk {w : World} {tb : Nat} {t : TypeId} {p : Int} {la : Option Addr} {ln lc : Nat} {ra : Option Addr} {rn rc : Nat} (h : Blk w tb t (dirC p la ln lc ra rn rc)) : w.cell? ⟨tb, 0, none⟩ = some (.int .i64 p) ∧ w.cell? ⟨tb, 1, none⟩ = some (.slice la ln lc) ∧ w.cell? ⟨tb, 2, none⟩ = some (.slice ra rn rc) :=
 ⟨h.at_ (i := 0) rfl, h.at_ (i := 1) rfl, h.at_ (i := 2) rfl⟩
set_option maxRecDepth 20000 in
set_option maxHeartbeats 2000000 in
theorem r35same_any (K K2 K3 K4 : Nat → Prop) (D : Dir) (la : Option Addr) (ln lc : Nat) (ra : Option Addr) (rn rc : Nat) (la2 : Option Addr) (lc2 : Nat) (ra2 : Option Addr) (rc2 : Nat) (w : World) (H1 : GS K w la ln lc D.ls) (H2 : QS K2 w ra rn rc D.rs) (H3 : GS K3 w la2 ln lc2 D.ls) (H4 : QS K4 w ra2 rn rc2 D.rs) :
 Calls Tryz.prog 21 #[.agg (dirC D.priv la ln lc ra rn rc).toArray, .agg (dirC D.priv la2 ln lc2 ra2 rn rc2).toArray] w (RetBo true w) := by
 obtain ⟨X, hX⟩ : ∃ X, X = RetBo true w := ⟨_, rfl⟩
 have hfin : Hid (∀ W, Below w.heap.size w W → X (.returned (.bool true)) W) := fun W h => by rw [hX]; exact ⟨rfl, h⟩
 rw [← hX]
 clear hX
 have hs1 := Lib.hid (fun W (hb : Below w.heap.size w W) => r35sameG_any K K3 D.ls la ln lc la2 lc2 W (H1.below hb) (H3.below hb))
 have hs2 := Lib.hid (fun W (hb : Below w.heap.size w W) => r35sameR_any K2 K4 D.rs ra rn rc ra2 rc2 W (H2.below hb) (H4.below hb))
 clear H1 H2 H3 H4
 obtain ⟨tb, htb⟩ : ∃ tb, Hid (w.heap.size = tb) := ⟨_, rfl⟩
 obtain ⟨p, hp⟩ : ∃ p, Hid (D.priv = p) := ⟨_, rfl⟩
 rw [hp.out]
 go_enter Tryz.func21, Tryz.ntmps21
 go_upto_region 1 with fail
 rw [htb.out]
 generalize hW : World.alloc _ _ = W
 have hA : Hid (Blk W tb 34 (dirC p la ln lc ra rn rc)) := by rw [← hW, ← htb.out]; exact (Blk.new w _ (dirC p la ln lc ra rn rc)).alloc _
 have hB : Hid (Blk W (tb + 1) 34 (dirC p la2 ln lc2 ra2 rn rc2)) := by
  rw [← hW, ← htb.out]
  have := Blk.new (w.alloc (.cells (dirC p la ln lc ra rn rc).toArray 34)) 34 (dirC p la2 ln lc2 ra2 rn rc2)
  rw [World.size_alloc] at this
  exact this
 have hb : Hid (Below w.heap.size w W) := by rw [← hW]; exact ((Below.refl _ w).alloc (Nat.le_refl _) _).alloc (by simp) _
 clear hW
 obtain ⟨c0, c1, c2⟩ := dirC_blk hA.out
 obtain ⟨e0, e1, e2⟩ := dirC_blk hB.out
 go_wp2_with fail
 refine (hs1.out W hb.out).mono ?_
 rintro e w1 ⟨rfl, hb1⟩
 have hb2 := Lib.hid (hb.out.trans (hb1.mono hb.out.size))
 obtain ⟨d0, d1, d2⟩ := dirC_blk (hA.out.below hb1 hA.out.lt)
 obtain ⟨f0, f1, f2⟩ := dirC_blk (hB.out.below hb1 hB.out.lt)
 clear c0 c1 c2 e0 e1 e2 hb1
 go_wp2_with fail
 refine (hs2.out w1 hb2.out).mono ?_
 rintro e w2 ⟨rfl, hb3⟩
 have hend := Lib.hid (hfin.out w2 (hb2.out.trans (hb3.mono hb2.out.size)))
 clear hb3 hb2 d0 d1 d2 f0 f1 f2
 go_wp2_with fail
 exact hend.out

set_option maxHeartbeats 1000000 in
theorem r35few_any (p : Int) (la : Option Addr) (ln lc : Nat) (ra : Option Addr) (rn rc : Nat) (w : World) :
 Calls Tryz.prog 14 #[.agg (dirC p la ln lc ra rn rc).toArray] w (RetBo (decide (ln ≤ 20) && decide (rn ≤ 20)) w) := by
 obtain ⟨tb, htb⟩ : ∃ tb, Hid (w.heap.size = tb) := ⟨_, rfl⟩
 by_cases h1 : ln ≤ 20
 · have h1' : decide ((ln : Int) ≤ 20) = true := by simp; omega
   by_cases h2 : rn ≤ 20
   · have h2' : decide ((rn : Int) ≤ 20) = true := by simp; omega
     rw [decide_eq_true h1, decide_eq_true h2]
     go_enter Tryz.func14, Tryz.ntmps14
     go_upto_region 1 with fail
     rw [htb.out]
     generalize hW : World.alloc _ _ = W
     have hA : Blk W tb 34 (dirC p la ln lc ra rn rc) := by rw [← hW, ← htb.out]; exact Blk.new w _ (dirC p la ln lc ra rn rc)
     have hb : Hid (Below w.heap.size w W) := by rw [← hW]; exact (Below.refl _ w).alloc (Nat.le_refl _) _
     clear hW
     obtain ⟨c0, c1, c2⟩ := dirC_blk hA
     clear hA
     go_wp2_with fail
     go_ret
     exact ⟨rfl, hb.out⟩
   · have h2' : decide ((rn : Int) ≤ 20) = false := by simp; omega
     rw [decide_eq_true h1, decide_eq_false h2]
     go_enter Tryz.func14, Tryz.ntmps14
     go_upto_region 1 with fail
     rw [htb.out]
     generalize hW : World.alloc _ _ = W
     have hA : Blk W tb 34 (dirC p la ln lc ra rn rc) := by rw [← hW, ← htb.out]; exact Blk.new w _ (dirC p la ln lc ra rn rc)
     have hb : Hid (Below w.heap.size w W) := by rw [← hW]; exact (Below.refl _ w).alloc (Nat.le_refl _) _
     clear hW
     obtain ⟨c0, c1, c2⟩ := dirC_blk hA
     clear hA
     go_wp2_with fail
     go_ret
     exact ⟨rfl, hb.out⟩
 · have h1' : decide ((ln : Int) ≤ 20) = false := by simp; omega
   rw [decide_eq_false h1]
   go_enter Tryz.func14, Tryz.ntmps14
   go_upto_region 1 with fail
   rw [htb.out]
   generalize hW : World.alloc _ _ = W
   have hA : Blk W tb 34 (dirC p la ln lc ra rn rc) := by rw [← hW, ← htb.out]; exact Blk.new w _ (dirC p la ln lc ra rn rc)
   have hb : Hid (Below w.heap.size w W) := by rw [← hW]; exact (Below.refl _ w).alloc (Nat.le_refl _) _
   clear hW
   obtain ⟨c0, c1, c2⟩ := dirC_blk hA
   clear hA
   go_wp2_with fail
   go_ret
   exact ⟨rfl, hb.out⟩

set_option maxHeartbeats 1000000 in
theorem r35new_any (k : Int) (w : World) : Calls Tryz.prog 16 #[.int .i64 k] w (NewPost k w) := by
 have hp := Lib.hid (fun W => r5private_any k W)
 have hf : Hid (∀ W, Below w.heap.size w W → keyOk k = true → NewPost k w (.returned (.tuple #[.agg #[.int .i64 k, .slice none 0 0, .slice none 0 0], .int .i64 0])) W) := fun W h1 h2 => by
  refine ⟨?_, h1⟩; unfold Go.Dr.newD; rw [if_pos h2]; rfl
 have hf2 : Hid (∀ W, Below w.heap.size w W → keyOk k = false → NewPost k w (.returned (.tuple #[.agg #[.int .i64 0, .slice none 0 0, .slice none 0 0], .int .i64 50])) W) := fun W h1 h2 => by
  refine ⟨?_, h1⟩; unfold Go.Dr.newD; rw [if_neg (by rw [h2]; simp)]; rfl
 obtain ⟨X, hX⟩ : ∃ X, X = NewPost k w := ⟨_, rfl⟩
 rw [← hX] at hf hf2 ⊢
 clear hX
 cases hk : keyOk k with
 | true =>
  have hf3 := Lib.hid (fun W h => hf.out W h hk)
  rw [hk] at hp
  clear hf hf2
  go_enter Tryz.func16, Tryz.ntmps16
  go_wp2_with fail
  refine (hp.out _).mono ?_
  rintro e w1 ⟨rfl, rfl⟩
  go_wp2_with fail
  exact ret_cell_tmp (p := 2) (u := 3) rfl (Blk.new w 34 (dirC k none 0 0 none 0 0)) Tryz.underlying34 rfl sizeDr rfl rfl rfl (hf3.out _ ((Below.refl _ w).alloc (Nat.le_refl _) _))
 | false =>
  have hf3 := Lib.hid (fun W h => hf2.out W h hk)
  rw [hk] at hp
  clear hf hf2
  go_enter Tryz.func16, Tryz.ntmps16
  go_wp2_with fail
  refine (hp.out _).mono ?_
  rintro e w1 ⟨rfl, rfl⟩
  go_wp2_with fail
  exact ret_cell_tmp (p := 2) (u := 3) rfl (Blk.new w 34 (dirC 0 none 0 0 none 0 0)) Tryz.underlying34 rfl sizeDr rfl rfl rfl (hf3.out _ ((Below.refl _ w).alloc (Nat.le_refl _) _))
end Go.Proofs.YthhblcbnnmoojaaGreatDoor
