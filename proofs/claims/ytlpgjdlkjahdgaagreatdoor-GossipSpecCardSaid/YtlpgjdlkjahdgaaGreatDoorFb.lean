/- the reference 35: Message the reference 35: ID, Signed -/
import Derived.Test.YtlpgjdlkjahdgaaGreatDoorAl
import Derived.Test.YtlpgjdlkjahdgaaGreatDoorRfV
import Derived.Test.YtlpgjdlkjahdgaaGreatDoorDiC
import Derived.OrdersHeld
namespace Go.Proofs.YtlpgjdlkjahdgaaGreatDoor
open Go.RowKit Go.Mem
open Go.Dr (Lst Rt)

theorem bs_rng {W : World} {b o : Nat} {d : List Nat} (hb : b < W.heap.size) (hd : d.length = 32) (hl : ∀ u ∈ d, u < 256) (h : W.rangeAt b o (bv d)) : BS W (some ⟨b, o, none⟩) 32 32 d :=
 ⟨hd, Nat.le_refl _, by omega, fun e => (by cases e), fun ad e => by
  cases e
  exact ⟨b, o, rfl, hb, fun i x hx => h i _ (bv_get hx)⟩, hl⟩

def SdX (w : World) (tb : Nat) (x : Rt) (wz : World) : Prop := Blk wz tb 62 (rC x) ∧ tb < wz.heap.size ∧ Below w.heap.size w wz
section
variable {w wz wq : World} {tb : Nat} {x : Rt}
theorem SdX.drew (h : SdX w tb x wz) : SdX w tb x wz.drew := ⟨h.1, h.2.1, h.2.2.drew⟩
theorem SdX.next (hb : Below wz.heap.size wz wq) (h : SdX w tb x wz) : SdX w tb x wq := ⟨h.1.below hb h.2.1, Nat.lt_of_lt_of_le h.2.1 hb.size, h.2.2.trans (hb.mono h.2.2.size)⟩
end
set_option maxRecDepth 20000 in
set_option maxHeartbeats 4000000 in
theorem r35msg_any (x : Rt) (hx : OkQ x) (w : World) :
 Calls Tryz.prog 176 #[.agg (rC x).toArray] w (fun e w' => ∃ v, e = .returned v ∧ OwnY w.heap.size w' v (Go.Dr.msgR x) ∧ Below w.heap.size w w') := by
 obtain ⟨X, hX⟩ : ∃ X, Hid (X = fun e w' => ∃ v, e = Ending.returned v ∧ OwnY w.heap.size w' v (Go.Dr.msgR x) ∧ Below w.heap.size w w') := ⟨_, rfl⟩
 rw [← hX.out]
 have hx' := Lib.hid hx
 clear hx
 obtain ⟨tb, htb⟩ : ∃ tb, Hid (w.heap.size = tb) := ⟨_, rfl⟩
 go_enter Tryz.func176, Tryz.ntmps176
 go_upto_region 1 with fail
 rw [htb.out]
 generalize hW : World.alloc _ _ = W
 have hM : SdX w tb x W := by
  rw [← hW, ← htb.out]
  exact ⟨Blk.new w _ (rC x), by simp, (Below.refl _ w).alloc (Nat.le_refl _) _⟩
 clear hW
 refine wp_region_held_drew (S := fun wz => SdX w tb x wz) (by kernel_rfl) (hM.drew) (fun hHeld => ?_)
 generalize W.drew = W0 at *
 refine tQ 0 rfl hHeld ?_
 refine tX 1 rfl (fun wz hSw => hSw.1.at_ (i := 0) (x := .int .i64 x.no) rfl) hHeld ?_
 refine tQ 3 rfl hHeld ?_
 refine tQ 4 rfl hHeld ?_
 refine tO 2 rfl (fun K hK => ?_)
 go_simp
 go_at_call 109
 have h0 := hHeld
 refine (r5bytes_any x.no W0).mono ?_
 rintro e W1 ⟨v1, rfl, ho1, hb1⟩
 refine hK.out _ _ (hHeld.next hb1) (fun hHeld2 => ?_)
 clear hHeld
 have hHeld := hHeld2
 clear hHeld2
 clear hK K
 try simp only [Act.put, sA, s0, s1]
 refine tO 5 rfl (fun K hK => ?_)
 obtain ⟨v2, W2, hr2, ho2, hb2⟩ := append_byL ho1 hb1.size hb1 (bw_of (bs_rng hHeld.2.1 hx'.out.dig hx'.out.digl (fun j u hu => by rw [show 1 + j = 1 + j from rfl]; exact hHeld.1.at_ (rC_dig hu)))) (by simp only [numB_length]; omega)
 refine wp_append_run rfl _ _ (by rfl) (by rfl) (hr2 _) ?_
 have hb3 : Hid (SdX w tb x W2) := SdX.next hb2 h0
 have ho3 := Lib.hid ho2
 have hb4 := Lib.hid hb2
 refine hK.out _ _ hb3.out (fun hHeld2 => ?_)
 clear hHeld ho1 hb1 hr2 ho2 hb2
 have hHeld := hHeld2
 clear hHeld2
 clear hK K
 try simp only [Act.put, sA, s0, s1]
 refine tQ 6 rfl hHeld ?_
 refine wpAnyH_done (by kernel_rfl) ?_ _
 have hrg : W2.rangeAt tb 33 (bv x.prev) := fun j u hu => hHeld.1.at_ (rC_prev hx'.out.dig hu)
 obtain ⟨v5, W5, hr5', ho5', hb5'⟩ := append_byL ho3.out hb4.out.size hb4.out (bw_of (bs_rng hHeld.2.1 hx'.out.prev hx'.out.prevl hrg)) (by rw [List.length_append]; simp only [numB_length, hx'.out.dig]; omega)
 have hr5 := Lib.hid hr5'
 have hend : Hid (X (.returned v5) W5) := by
  show X _ _
  rw [hX.out]
  exact ⟨v5, rfl, ho5'.imp h0.2.2.size, h0.2.2.trans (hb5'.mono h0.2.2.size)⟩
 clear hr5' ho5' hb5' ho3 hb4 hHeld hrg h0
 go_wp2_with (first
  | (at_builtin; refine Lib.wpList_append_run _ rfl _ _ _ _ rfl _ _ rfl rfl _ _ (hr5.out _) ?_))
 exact hend.out
end Go.Proofs.YtlpgjdlkjahdgaaGreatDoor
namespace Go.Proofs.YtlpgjdlkjahdgaaGreatDoor
open Go.RowKit Go.Mem
open Go.Dr (Lst Rt)

def IdX (w : World) (tb : Nat) (x : Rt) (wz : World) : Prop := SdX w tb x wz ∧ Blk wz (tb + 1) 43 (bv (List.replicate 32 0)) ∧ w.heap.size ≤ tb
section
variable {w wz wq : World} {tb : Nat} {x : Rt}
theorem IdX.drew (h : IdX w tb x wz) : IdX w tb x wz.drew := ⟨h.1.drew, h.2.1.drewN 1, h.2.2⟩
theorem IdX.next (hb : Below wz.heap.size wz wq) (h : IdX w tb x wz) : IdX w tb x wq := ⟨h.1.next hb, h.2.1.below hb h.2.1.lt, h.2.2⟩
end
set_option maxRecDepth 20000 in
set_option maxHeartbeats 4000000 in
theorem r35id_any (x : Rt) (hx : OkQ x) (w : World) :
 Calls Tryz.prog 133 #[.agg (rC x).toArray] w (DigPost (Go.Dr.idR x) w) := by
 obtain ⟨X, hX⟩ : ∃ X, Hid (X = DigPost (Go.Dr.idR x) w) := ⟨_, rfl⟩
 rw [← hX.out]
 have hx' := Lib.hid hx
 have z0 : (Tryz.prog.info? 62).map (·.size) = some (rC x).length := by rw [rC_length hx]; exact sizeR
 have hml : Hid ((Go.Dr.msgR x).length = 72) := by show _ = _; unfold Go.Dr.msgR Go.Dr.num8; simp [hx.dig, hx.prev, Sha.be_length]
 have hms := Lib.hid (fun W => r35msg_any x hx W)
 clear hx
 obtain ⟨tb, htb⟩ : ∃ tb, Hid (w.heap.size = tb) := ⟨_, rfl⟩
 go_enter Tryz.func133, Tryz.ntmps133
 go_upto_region 1 with fail
 rw [htb.out]
 generalize hW : World.alloc _ _ = W
 have hM : IdX w tb x W := by
  rw [← hW, ← htb.out]
  refine ⟨⟨(Blk.new w _ (rC x)).alloc _, by simp; omega, ((Below.refl _ w).alloc (Nat.le_refl _) _).alloc (by simp) _⟩, ?_, Nat.le_refl _⟩
  have := zero_dig (w.alloc (.cells (rC x).toArray 62))
  rw [World.size_alloc] at this
  exact this
 clear hW
 refine wp_region_held_drew (S := fun wz => IdX w tb x wz) (by kernel_rfl) (hM.drew) (fun hHeld => ?_)
 generalize W.drew = W0 at *
 refine tY 0 rfl tb 0 (rC x) (fun wz h => h.1.1.range) Tryz.underlying62 z0 hHeld ?_
 refine tQ 2 rfl hHeld ?_
 refine tQ 3 rfl hHeld ?_
 refine tX 4 rfl (fun wz hSw => hSw.1.1.at_ (rC_r hx'.out)) hHeld ?_
 refine tO 1 rfl (fun K hK => ?_)
 go_simp
 go_at_call 176
 have h0 := hHeld
 refine (hms.out W0).mono ?_
 rintro e W1 ⟨v1, rfl, ho1, hb1⟩
 refine hK.out _ _ (hHeld.next hb1) (fun hHeld2 => ?_)
 clear hHeld
 have hHeld := hHeld2
 clear hHeld2
 clear hK K
 try simp only [Act.put, sA, s0, s1]
 refine tO 5 rfl (fun K hK => ?_)
 go_simp
 go_at_call 109
 refine (r5bytes_any x.r W1).mono ?_
 rintro e W2 ⟨v2, rfl, ho2, hb2⟩
 refine hK.out _ _ (hHeld.next hb2) (fun hHeld2 => ?_)
 clear hHeld
 have hHeld := hHeld2
 clear hHeld2
 clear hK K
 try simp only [Act.put, sA, s0, s1]
 refine tO 6 rfl (fun K hK => ?_)
 obtain ⟨v3, W3, hr3, ho3', hb3'⟩ := append_own (ho1.below hb2) (Nat.le_trans hb1.size hb2.size) (hb1.trans (hb2.mono hb1.size)) ho2 (by rw [hml.out]; simp only [numB_length]; omega)
 refine wp_append_run rfl _ _ (by rfl) (by rfl) (hr3 _) ?_
 have ho3 := Lib.hid ho3'; have hb3 := Lib.hid hb3'
 refine hK.out _ _ (IdX.next hb3' h0) (fun hHeld2 => ?_)
 clear ho1 hb1 ho2 hb2 hr3 ho3' hb3'
 clear hHeld
 have hHeld := hHeld2
 clear hHeld2
 clear hK K
 try simp only [Act.put, sA, s0, s1]
 refine tQ 7 rfl hHeld ?_
 refine wpAnyH_done (by kernel_rfl) ?_ _
 have y1 := hHeld.1.1.at_ (rC_s hx'.out)
 have hH := Lib.hid hHeld
 clear hHeld
 go_wp2_with fail
 refine (r5bytes_any x.s W3).mono ?_
 rintro e W4 ⟨v4, rfl, ho4, hb4⟩
 obtain ⟨v5, W5, hr5', ho5', hb5'⟩ := append_own (ho3.out.below hb4) (Nat.le_trans hb3.out.size hb4.size) (hb3.out.trans (hb4.mono hb3.out.size)) ho4 (by rw [List.length_append, hml.out]; simp only [numB_length]; omega)
 have hr5 := Lib.hid hr5'
 obtain ⟨a5, c5, rfl, hB5'⟩ := BS.own ho5'.1 ho5'.2
 have hB5 := Lib.hid hB5'
 have hH5 : Hid (IdX w tb x W5) := IdX.next hb5' h0
 clear hr5' ho5' hb5' ho3 hb3 ho4 hb4 hB5' y1
 have hll : Hid ((Go.Dr.msgR x ++ numB x.r ++ numB x.s).length = 88) := by show _ = _; simp only [List.length_append, numB_length, hml.out]
 rw [hll.out] at hr5 hB5
 go_wp2_with (first
  | (at_builtin; refine Lib.wpList_append_run _ rfl _ _ _ _ rfl _ _ rfl rfl _ _ (hr5.out _) ?_))
 refine (r2tagged_any ⟨#[114, 111, 111, 116]⟩ (by decide) _ _ _ _ W5 (bw_of hB5.out) (by omega)).mono ?_
 rintro e W6 ⟨rfl, hb6⟩
 have hid : Sha.tagged (octets ⟨#[114, 111, 111, 116]⟩) (Go.Dr.msgR x ++ numB x.r ++ numB x.s) = Go.Dr.idR x := rfl
 rw [hid]
 have hH6 := IdX.next hb6 hH5.out
 obtain ⟨D, hDD⟩ : ∃ D, Hid (bv (Go.Dr.idR x) = D) := ⟨_, rfl⟩
 have hDl : D.length = 32 := by rw [← hDD.out, bv_length]; exact Sha.tagged_length _ _
 have hD1 : ∀ u ∈ D, u.oneCell' = true := by rw [← hDD.out]; exact bv_one _
 rw [hDD.out]
 have hP := Lib.hid (Put.mk' (ty := 43) (RES := D) hH6.2.1 (by rw [hDl]; rfl) (by rw [hDl]; exact size35) hD1)
 have hend : Hid (X (.returned (.agg D.toArray)) (W6.setCells (tb + 1) 0 D)) := by
  show X _ _
  rw [hX.out, ← hDD.out]; exact ⟨rfl, by rw [hDD.out]; exact below_grown hH6.1.2.2 hP.out.grw hH6.1.2.2.size (by have := hH6.2.2; omega)⟩
 clear hDl hD1 hid hH6 hb6 hB5 hH5 hll hH h0
 go_wp2_with (first
  | (refine wpList_store_mid (by rfl) 43 (.tmp 2) (.tmp 17) (by rfl) (tb + 1) 0 D.toArray (by rfl) (by rfl) hP.out.th hP.out.inf hP.out.one ?_))
 exact bodyPost_ret (results_cell_row rfl _ _ (tb + 1) 43 D.toArray (0, 0) _ rfl hP.out.blk Tryz.underlying43 rfl hP.out.inf) rfl hend.out

set_option maxRecDepth 20000 in
set_option maxHeartbeats 8000000 in
theorem r35signed_b (b : Int) (hver : ∀ (pub R S : Int) (a : Option Addr) (n c : Nat) (l : List Nat) (w : World), BW w a n c l → n ≤ 140737488354000 → Calls Tryz.prog 76 #[.int .i64 pub, .slice a n c, .agg #[.int .i64 R, .int .i64 S]] w (RetBo (verB b pub l R S) w)) (pub : Int) (x : Rt) (hx : OkQ x) (w : World) :
 Calls Tryz.prog 132 #[.int .i64 pub, .agg (rC x).toArray] w (RetBo (Go.Dr.signedB b pub x) w) := by
 have hx' := Lib.hid hx
 have hver' := Lib.hid hver
 clear hver
 obtain ⟨tb, htb⟩ : ∃ tb, Hid (w.heap.size = tb) := ⟨_, rfl⟩
 have z0 : (Tryz.prog.info? 62).map (·.size) = some (rC x).length := by rw [rC_length hx]; exact sizeR
 have hml : Hid ((Go.Dr.msgR x).length = 72) := by show _ = _; unfold Go.Dr.msgR Go.Dr.num8; simp [hx.dig, hx.prev, Sha.be_length]
 go_enter Tryz.func132, Tryz.ntmps132
 go_upto_region 1 with fail
 rw [htb.out]
 generalize hW : World.alloc _ _ = W
 have hM : SdX w tb x W := by
  rw [← hW, ← htb.out]
  exact ⟨Blk.new w _ (rC x), by simp, (Below.refl _ w).alloc (Nat.le_refl _) _⟩
 clear hW hx
 obtain ⟨V, hV⟩ : ∃ V, Hid (verB b pub (Go.Dr.msgR x) x.r x.s = V) := ⟨_, rfl⟩
 have hms := Lib.hid (fun W => r35msg_any x hx'.out W)
 have c0q : Hid (∀ wz, SdX w tb x wz → wz.cell? ⟨tb, 0, none⟩ = some (.int .i64 x.no)) := fun wz h => h.1.at_ (i := 0) rfl
 by_cases h1 : 1 ≤ x.no
 · have h1' : decide (1 ≤ x.no) = true := by simpa using h1
   by_cases h2 : x.no ≤ 65536
   · have h2' : decide (x.no ≤ 65536) = true := by simpa using h2
     have hv : Hid (Go.Dr.signedB b pub x = V) := by show _ = _; unfold Go.Dr.signedB; rw [decide_eq_true ⟨h1, h2⟩, hV.out]; rfl
     refine wp_region_held_drew (S := fun wz => SdX w tb x wz) (by kernel_rfl) (hM.drew) (fun hHeld => ?_)
     generalize W.drew = W0 at *
     refine tQ 0 rfl hHeld ?_
     refine tX 1 rfl (fun wz hSw => c0q.out wz hSw) hHeld ?_
     refine tQ 2 rfl hHeld ?_
     refine tQ 3 rfl hHeld ?_
     refine tQ 4 rfl hHeld ?_
     refine tX 5 rfl (fun wz hSw => c0q.out wz hSw) hHeld ?_
     refine tQ 6 rfl hHeld ?_
     refine tQ 7 rfl hHeld ?_
     refine tQ 8 rfl hHeld ?_
     refine tQ 9 rfl hHeld ?_
     refine tY 10 rfl tb 0 (rC x) (fun wz h => h.1.range) Tryz.underlying62 z0 hHeld ?_
     refine tQ 12 rfl hHeld ?_
     refine tX 13 rfl (fun wz hSw => And.intro (hSw.1.at_ (rC_r hx'.out)) (hSw.1.at_ (rC_s hx'.out))) hHeld ?_
     refine tO 11 rfl (fun K hK => ?_)
     go_simp
     go_at_call 176
     refine (hms.out W0).mono ?_
     rintro e W1 ⟨v1, rfl, ho1, hst⟩
     refine hK.out _ _ (hHeld.next hst) (fun hHeld2 => ?_)
     clear hHeld
     have hHeld := hHeld2
     clear hHeld2
     obtain ⟨a2, c2, rfl, hS3⟩ := BS.own ho1.1 ho1.2
     rw [hml.out] at hS3 ⊢
     clear hK K
     try simp only [Act.put, sA, s0, s1]
     refine tO 14 rfl (fun K hK => ?_)
     go_simp
     go_at_call 76
     refine (hver'.out pub x.r x.s a2 72 c2 (Go.Dr.msgR x) W1 (bw_of hS3) (by omega)).mono ?_
     rintro e W4 ⟨rfl, hst2⟩
     refine hK.out _ _ (hHeld.next hst2) (fun hHeld2 => ?_)
     clear hHeld
     have hHeld := hHeld2
     clear hHeld2
     rw [hV.out]
     clear hK K
     try simp only [Act.put, sA, s0, s1]
     refine tQ 15 rfl hHeld ?_
     refine tQ 16 rfl hHeld ?_
     refine wpAnyH_done (by kernel_rfl) ?_ _
     go_wp2_with fail
     go_ret
     exact ⟨by rw [hv.out]; rfl, hHeld.2.2⟩
   · have h2' : decide (x.no ≤ 65536) = false := by simpa using h2
     have hv : Hid (Go.Dr.signedB b pub x = false) := by show _ = _; unfold Go.Dr.signedB; rw [decide_eq_false (fun h => h2 h.2)]; rfl
     refine wp_region_held_drew (S := fun wz => SdX w tb x wz) (by kernel_rfl) (hM.drew) (fun hHeld => ?_)
     generalize W.drew = W0 at *
     refine tQ 0 rfl hHeld ?_
     refine tX 1 rfl (fun wz hSw => c0q.out wz hSw) hHeld ?_
     refine tQ 2 rfl hHeld ?_
     refine tQ 3 rfl hHeld ?_
     refine tQ 4 rfl hHeld ?_
     refine tX 5 rfl (fun wz hSw => c0q.out wz hSw) hHeld ?_
     refine tQ 6 rfl hHeld ?_
     refine tQ 7 rfl hHeld ?_
     refine tQ 8 rfl hHeld ?_
     refine tS 9 rfl hHeld ?_
     refine tS 10 rfl hHeld ?_
     refine tS 12 rfl hHeld ?_
     refine tS 13 rfl hHeld ?_
     refine rd (rs := [11]) ?_
     refine AllReadyH.cons (o := ⟨some 16, .call { callee := .value (.func 176), args := #[.tmp 15], argTypes := #[62] }, 33, "ref.go:188", #[⟨10, .data⟩, ⟨8, .chain⟩, ⟨8, .guard⟩], some (8, true)⟩) rfl (fun K hK => ?_) AllReadyH.nil
     rw [if_neg (Bool.eq_false_iff.1 (by rfl))]
     refine hK.out _ _ hHeld (fun hHeld => ?_)
     clear hK K
     try simp only [Act.put, sA, s0, s1]
     refine rd (rs := [14]) ?_
     refine AllReadyH.cons (o := ⟨some 19, .call { callee := .value (.func 76), args := #[.tmp 14, .tmp 16, .tmp 18], argTypes := #[3, 33, 45] }, 4, "ref.go:188", #[⟨9, .data⟩, ⟨11, .data⟩, ⟨13, .data⟩, ⟨11, .chain⟩, ⟨8, .guard⟩], some (8, true)⟩) rfl (fun K hK => ?_) AllReadyH.nil
     rw [if_neg (Bool.eq_false_iff.1 (by rfl))]
     refine hK.out _ _ hHeld (fun hHeld => ?_)
     clear hK K
     try simp only [Act.put, sA, s0, s1]
     refine tQ 15 rfl hHeld ?_
     refine tQ 16 rfl hHeld ?_
     refine wpAnyH_done (by kernel_rfl) ?_ _
     go_wp2_with fail
     go_ret
     exact ⟨by rw [hv.out]; rfl, hHeld.2.2⟩
 · have h1' : decide (1 ≤ x.no) = false := by simpa using h1
   have hv : Hid (Go.Dr.signedB b pub x = false) := by show _ = _; unfold Go.Dr.signedB; rw [decide_eq_false (fun h => h1 h.1)]; rfl
   refine wp_region_held_drew (S := fun wz => SdX w tb x wz) (by kernel_rfl) (hM.drew) (fun hHeld => ?_)
   generalize W.drew = W0 at *
   refine tQ 0 rfl hHeld ?_
   refine tX 1 rfl (fun wz hSw => c0q.out wz hSw) hHeld ?_
   refine tQ 2 rfl hHeld ?_
   refine tQ 3 rfl hHeld ?_
   refine tS 4 rfl hHeld ?_
   refine tS 5 rfl hHeld ?_
   refine tS 6 rfl hHeld ?_
   refine tQ 7 rfl hHeld ?_
   refine tQ 8 rfl hHeld ?_
   refine tS 9 rfl hHeld ?_
   refine tS 10 rfl hHeld ?_
   refine tS 12 rfl hHeld ?_
   refine tS 13 rfl hHeld ?_
   refine rd (rs := [11]) ?_
   refine AllReadyH.cons (o := ⟨some 16, .call { callee := .value (.func 176), args := #[.tmp 15], argTypes := #[62] }, 33, "ref.go:188", #[⟨10, .data⟩, ⟨8, .chain⟩, ⟨8, .guard⟩], some (8, true)⟩) rfl (fun K hK => ?_) AllReadyH.nil
   rw [if_neg (Bool.eq_false_iff.1 (by rfl))]
   refine hK.out _ _ hHeld (fun hHeld => ?_)
   clear hK K
   try simp only [Act.put, sA, s0, s1]
   refine rd (rs := [14]) ?_
   refine AllReadyH.cons (o := ⟨some 19, .call { callee := .value (.func 76), args := #[.tmp 14, .tmp 16, .tmp 18], argTypes := #[3, 33, 45] }, 4, "ref.go:188", #[⟨9, .data⟩, ⟨11, .data⟩, ⟨13, .data⟩, ⟨11, .chain⟩, ⟨8, .guard⟩], some (8, true)⟩) rfl (fun K hK => ?_) AllReadyH.nil
   rw [if_neg (Bool.eq_false_iff.1 (by rfl))]
   refine hK.out _ _ hHeld (fun hHeld => ?_)
   clear hK K
   try simp only [Act.put, sA, s0, s1]
   refine tQ 15 rfl hHeld ?_
   refine tQ 16 rfl hHeld ?_
   refine wpAnyH_done (by kernel_rfl) ?_ _
   go_wp2_with fail
   go_ret
   exact ⟨by rw [hv.out]; rfl, hHeld.2.2⟩
theorem r35signed_any (pub : Int) (x : Rt) (hx : OkQ x) (w : World) :
 Calls Tryz.prog 132 #[.int .i64 pub, .agg (rC x).toArray] w (RetBo (Go.Dr.signedB 4 pub x) w) :=
 r35signed_b 4 (fun pub R S a n c l w H hn => r5verify_any pub R S a n c l w H hn) pub x hx w
end Go.Proofs.YtlpgjdlkjahdgaaGreatDoor

