/- StoreHeads: for every key and head the law returns true and its arguments read as before; the package variables digest.start and digest.numbers are as the program's text lays them (the tied card); no other condition. -/
import Derived.Test.YtgfmdjagamjpbaaDoorSne
import Derived.Test.YtgfmdjagamjpbaaDoorCards
import Derived.Test.YtgfmdjagamjpbaaDoorTie
import Derived.Test.YtgfmdjagamjpbaaDoorOpa
import Derived.SevenTiedAt
namespace Go.Proofs.YtgfmdjagamjpbaaDoor
open Go.RowKit Go.Mem
open Go.Sto (Ent Lg St)

theorem MsgS.of {w : World} {tb : Nat} {st fo no R S : Int} {D : List Nat} {r : List Value} (hr : HeadR st fo no R S D r) (h : Blk w tb 39 r) : MsgS w tb st fo no D w := by
  refine ⟨h.at_ hr.at0.1, h.at_ hr.at0.2.1, h.at_ hr.at0.2.2, fun j v hv => h.at_ ?_, h.lt, Below.refl _ _⟩
  rw [← hr.eq]
  unfold headC
  have hj := (List.getElem?_eq_some_iff.1 hv).1
  rw [List.getElem?_append_right (by simp), List.getElem?_append_left (by simp; omega)]
  simpa using hv

/-- what the guarded region keeps: the head's cells, its box and the digest's. -/
def LhdW (w : World) (tb db : Nat) (r : List Value) (M : List Nat) (wz : World) : Prop := Blk wz tb 39 r ∧ Blk wz db 35 (bv M) ∧ Below w.heap.size w wz
theorem LhdW.fin {w wz : World} {tb db : Nat} {st fo no R S : Int} {M : List Nat} {r : List Value} (h : wz.cell? ⟨tb, 0, none⟩ = some (.int .i64 st) ∧ wz.cell? ⟨tb, 1, none⟩ = some (.int .i64 fo) ∧ wz.cell? ⟨tb, 2, none⟩ = some (.int .i64 no) ∧ wz.cell? ⟨tb, 35, none⟩ = some (.int .i64 R) ∧ wz.cell? ⟨tb, 36, none⟩ = some (.int .i64 S) ∧ LhdW w tb db r M wz) : LhdW w tb db r M wz := h.2.2.2.2.2
section
variable {w wz wq : World} {tb db : Nat} {st fo no R S : Int} {D M : List Nat} {r : List Value}
theorem LhdW.mk' (hr : HeadR st fo no R S D r) (h : LhdW w tb db r M wz) : wz.cell? ⟨tb, 0, none⟩ = some (.int .i64 st) ∧ wz.cell? ⟨tb, 1, none⟩ = some (.int .i64 fo) ∧ wz.cell? ⟨tb, 2, none⟩ = some (.int .i64 no) ∧ wz.cell? ⟨tb, 35, none⟩ = some (.int .i64 R) ∧ wz.cell? ⟨tb, 36, none⟩ = some (.int .i64 S) ∧ LhdW w tb db r M wz :=
  ⟨h.1.at_ hr.at0.1, h.1.at_ hr.at0.2.1, h.1.at_ hr.at0.2.2, h.1.at_ hr.at3.1, h.1.at_ hr.at3.2, h⟩
theorem LhdW.nextB (hr : HeadR st fo no R S D r) (hb : Below wz.heap.size wz wq) (h : wz.cell? ⟨tb, 0, none⟩ = some (.int .i64 st) ∧ wz.cell? ⟨tb, 1, none⟩ = some (.int .i64 fo) ∧ wz.cell? ⟨tb, 2, none⟩ = some (.int .i64 no) ∧ wz.cell? ⟨tb, 35, none⟩ = some (.int .i64 R) ∧ wz.cell? ⟨tb, 36, none⟩ = some (.int .i64 S) ∧ LhdW w tb db r M wz) :
    wq.cell? ⟨tb, 0, none⟩ = some (.int .i64 st) ∧ wq.cell? ⟨tb, 1, none⟩ = some (.int .i64 fo) ∧ wq.cell? ⟨tb, 2, none⟩ = some (.int .i64 no) ∧ wq.cell? ⟨tb, 35, none⟩ = some (.int .i64 R) ∧ wq.cell? ⟨tb, 36, none⟩ = some (.int .i64 S) ∧ LhdW w tb db r M wq :=
  LhdW.mk' hr ⟨h.2.2.2.2.2.1.below hb h.2.2.2.2.2.1.lt, h.2.2.2.2.2.2.1.below hb h.2.2.2.2.2.2.1.lt, h.2.2.2.2.2.2.2.trans (hb.mono h.2.2.2.2.2.2.2.size)⟩
theorem LhdW.drewB (hr : HeadR st fo no R S D r) (h : wz.cell? ⟨tb, 0, none⟩ = some (.int .i64 st) ∧ wz.cell? ⟨tb, 1, none⟩ = some (.int .i64 fo) ∧ wz.cell? ⟨tb, 2, none⟩ = some (.int .i64 no) ∧ wz.cell? ⟨tb, 35, none⟩ = some (.int .i64 R) ∧ wz.cell? ⟨tb, 36, none⟩ = some (.int .i64 S) ∧ LhdW w tb db r M wz) :
    wz.drew.cell? ⟨tb, 0, none⟩ = some (.int .i64 st) ∧ wz.drew.cell? ⟨tb, 1, none⟩ = some (.int .i64 fo) ∧ wz.drew.cell? ⟨tb, 2, none⟩ = some (.int .i64 no) ∧ wz.drew.cell? ⟨tb, 35, none⟩ = some (.int .i64 R) ∧ wz.drew.cell? ⟨tb, 36, none⟩ = some (.int .i64 S) ∧ LhdW w tb db r M wz.drew := LhdW.nextB hr (Below.refl _ wz).drew h
end

set_option maxRecDepth 100000 in
set_option maxHeartbeats 4000000 in
theorem heads_walk (pub st fo no R S : Int) (D : List Nat) (hp : I64 pub) (hst : I64 st) (hfo : I64 fo) (hno : I64 no) (hR : I64 R) (hD : D.length = 32 ∧ ∀ u ∈ D, u < 256) (w : World) (HT : Tabs w) :
    Calls Tryd.prog 6 #[.int .i64 pub, .agg (headC st fo no D R S).toArray] w (RetBo true w) := by
  have HT' := Lib.hid HT
  obtain ⟨tb, htb⟩ : ∃ tb, Hid (w.heap.size = tb) := ⟨_, rfl⟩
  obtain ⟨r, hr⟩ : ∃ r, HeadR st fo no R S D r := ⟨_, rfl, hD.1⟩
  have hver := Lib.hid (fun W (hT : Tabs W) => sVerify_any pub st fo no R S D hp hst hfo hno hR hD W hT)
  have hone := hr.one
  have hri : Hid ((Tryd.prog.info? 39).map (·.size) = some r.length) := by show _ = _; rw [hr.len]; exact sizeH
  have hu := Tryd.underlying39
  have hsl := fun W => slice_at3 W tb
  have hok : Hid (∀ x ∈ [FV.int st, .int fo, .int no, .text (txtD D)], FVok x) := fun x hx => by
    simp only [List.mem_cons, List.not_mem_nil, or_false] at hx
    rcases hx with rfl | rfl | rfl | rfl
    · exact hst
    · exact hfo
    · exact hno
    · show (txtD D).size ≤ 1000
      rw [txtD_len, hD.1]; omega
  have hcv := fun W h => dig_text D hD.1 tb W h
  have hhd : Hid (Sha.tagged (octets ⟨#[104, 101, 97, 100]⟩) (encL [.int st, .int fo, .int no, .text (txtD D)]) = headD st fo no D) := rfl
  have henc : Hid (∀ x ∈ encL [FV.int st, .int fo, .int no, .text (txtD D)], x < 256) := encL_lt _
  have hel : Hid ((encL [FV.int st, .int fo, .int no, .text (txtD D)]).length ≤ 10000) := by
    have h1 := encs_len _ hok.out
    have h2 := Cod.numl_len64 (u := 0 + 1 + 1 + 1 + 1) (by omega)
    show (encL _).length ≤ 10000
    simp only [encL, List.length_cons, List.length_append, List.length_nil] at h1 h2 ⊢
    omega
  obtain ⟨T, hT⟩ : ∃ T, Hid (txtD D = T) := ⟨_, rfl⟩
  rw [hT.out] at hok hcv hhd henc hel
  have hM : Hid ((headD st fo no D).length = 32 ∧ ∀ u ∈ headD st fo no D, u < 256) := ⟨Sha.tagged_length _ _, Sha.tagged_lt _ _⟩
  obtain ⟨v, hv⟩ : ∃ v, Hid (headB pub st fo no D R S = v) := ⟨_, rfl⟩
  rw [hv.out] at hver
  unfold headB at hv
  have hsv := Lib.hid (fun W mb hT hB => Verify_any pub R S hp hR (some ⟨mb, 0, none⟩) 32 32 (headD st fo no D) W hT hB (by omega))
  generalize headD st fo no D = M at *
  have hcs : (v = false ∧ (decide (0 ≤ st) = false ∨ (decide (0 ≤ st) = true ∧ decide (st < 4) = false) ∨ (decide (0 ≤ st) = true ∧ decide (st < 4) = true ∧ decide (0 ≤ fo) = false) ∨ (decide (0 ≤ st) = true ∧ decide (st < 4) = true ∧ decide (0 ≤ fo) = true ∧ decide (fo < 16) = false) ∨ (decide (0 ≤ st) = true ∧ decide (st < 4) = true ∧ decide (0 ≤ fo) = true ∧ decide (fo < 16) = true ∧ decide (0 ≤ no) = false) ∨ (decide (0 ≤ st) = true ∧ decide (st < 4) = true ∧ decide (0 ≤ fo) = true ∧ decide (fo < 16) = true ∧ decide (0 ≤ no) = true ∧ decide (no ≤ 65536) = false)))
      ∨ (verB 4 pub M R S = v ∧ decide (0 ≤ st) = true ∧ decide (st < 4) = true ∧ decide (0 ≤ fo) = true ∧ decide (fo < 16) = true ∧ decide (0 ≤ no) = true ∧ decide (no ≤ 65536) = true) := by
    have h := hv.out
    have hfb : Sto.folderB fo = (decide (0 ≤ fo) && decide (fo < 16)) := by unfold Sto.folderB; exact Bool.decide_and _ _
    rw [hfb] at h
    cases h1 : decide (0 ≤ st) <;> cases h2 : decide (st < 4) <;> cases h5 : decide (0 ≤ fo) <;> cases h6 : decide (fo < 16) <;> cases h3 : decide (0 ≤ no) <;> cases h4 : decide (no ≤ 65536) <;> simp [h1, h2, h3, h4, h5, h6] at h ⊢ <;> first | exact h | exact h.symm
  have hcs' := Lib.hid hcs
  obtain ⟨X, hX⟩ : ∃ X, X = RetBo true w := ⟨_, rfl⟩
  have hfin : Hid (∀ W, Below w.heap.size w W → X (.returned (.bool true)) W) := fun W h => by rw [hX]; exact ⟨rfl, h⟩
  rw [← hX]
  rw [hr.eq] at hver ⊢
  clear hcs hv hX HT hT hst hfo hno hD hp hR
  have hr' := Lib.hid hr
  clear hr
  go_enter Tryd.func6, Tryd.ntmps6
  go_wp2_with fail
  have hW0 : Hid (Blk (w.alloc (.cells r.toArray 39)) tb 39 r) := by rw [← htb.out]; exact Blk.new w _ _
  have hb0 : Hid (Below w.heap.size w (w.alloc (.cells r.toArray 39))) := (Below.refl _ w).alloc (Nat.le_refl _) _
  rw [htb.out]
  generalize w.alloc (.cells r.toArray 39) = w0 at *
  refine (sane_any _ (HT'.out.below hb0.out)).mono ?_
  rintro e w1 ⟨rfl, hb1⟩
  have hW1 := Lib.hid (hW0.out.below hb1 hW0.out.lt)
  have hb1' := Lib.hid (hb0.out.trans (hb1.mono hb0.out.size))
  clear hW0 hb0 hb1
  have hS := MsgS.of hr'.out hW1.out
  go_wp2_with fail
  go_region_held3 (fun wz => wz.cell? ⟨tb, 0, none⟩ = some (.int .i64 st) ∧ wz.cell? ⟨tb, 1, none⟩ = some (.int .i64 fo) ∧ wz.cell? ⟨tb, 2, none⟩ = some (.int .i64 no) ∧ wz.rangeAt tb 3 (bv D) ∧ tb < wz.heap.size ∧ Below w1.heap.size w1 wz) (repeat (first | assumption | apply MsgS.drewB | apply MsgS.allocB))
    (first
      | (go_at_call 21; refine (Encode_any w1.heap.size 4 4 [.int st, .int fo, .int no, .text T] hok.out _ ⟨Blk.new w1.drew _ _, rfl, Nat.le_refl _, by omega, by omega⟩).mono ?_; rintro e wq ⟨v5, rfl, ho5, hbq⟩; have hsq := MsgS.nextB hbq (by assumption)))
  obtain ⟨a5, c5, rfl, hB5⟩ := BS.own ho5 henc.out
  have hbw := hsq.2.2.2.2.2
  have hW5 := Lib.hid (hW1.out.below hbw hW1.out.lt)
  have hb5 := Lib.hid (hb1'.out.trans (hbw.mono hb1'.out.size))
  have hB5' := Lib.hid hB5
  have hel' := hel.out
  clear hB5 ho5 hsq hS hbq hok hcv hsl henc hbw hW1 hb1'
  go_wp2_with fail
  refine (tagged_any ⟨#[104, 101, 97, 100]⟩ (by decide) _ _ _ _ _ (HT'.out.below hb5.out) hB5'.out (by omega)).mono ?_
  rintro e w8 ⟨rfl, hb8⟩
  have hW8 := Lib.hid (hW5.out.below hb8 hW5.out.lt)
  have hb9 := Lib.hid (hb5.out.trans (hb8.mono hb5.out.size))
  rw [hhd.out]
  obtain ⟨W9, hP⟩ := put_dig (x := M) (Blk.new w8 35 (bv (List.replicate 32 0))) (by simp) hM.out.1
  have hbl : Hid (Blk W9 w8.heap.size 35 (bv M)) := hP.blk
  have hst9 := below_grown ((Below.refl _ w8).alloc (Nat.le_refl _) _) hP.grown (by simp) (Nat.le_refl _)
  have hW9 := Lib.hid (hW8.out.below hst9 hW8.out.lt)
  have hb10 := Lib.hid (hb9.out.trans (hst9.mono hb9.out.size))
  have s1 := fun W => slice_all W w8.heap.size
  obtain ⟨RES, hRES⟩ : ∃ RES, Hid (bv M = RES) := ⟨_, rfl⟩
  rw [hRES.out] at hP ⊢
  have hP' := Lib.hid hP
  have hL := LhdW.mk' (w := w) (M := M) (db := w8.heap.size) hr'.out ⟨hW9.out, hbl.out, hb10.out⟩
  clear hP hb8 hB5' hel hel' hhd hb9 hst9 hW8 hW5 hb5
  have c0 := hL.1
  have c1 := hL.2.1
  have c2 := hL.2.2.1
  have c3 := hL.2.2.2.1
  have c4 := hL.2.2.2.2.1
  have hL' := Lib.hid hL
  clear hL
  go_wp2_with (first
    | (refine wpList_store_mid (by rfl) 35 (.tmp 7) (.tmp 31) (by rfl) w8.heap.size 0 RES.toArray (by rfl) (by rfl) hP'.out.there hP'.out.info (by simpa using hP'.out.one) ?_
       generalize hWq : World.setCells _ _ _ _ = Wa
       obtain rfl : W9 = Wa := by rw [← hWq]; exact hP'.out.eq
       clear hWq))
  clear hP' hRES
  have hdb : Hid (∀ W, LhdW w tb w8.heap.size r M W → BS W (some ⟨w8.heap.size, 0, none⟩) 32 32 M) := fun W h => dig_bs hM.out h.2.1
  generalize w8.heap.size = db at *
  rcases hcs'.out with ⟨rfl, h1 | ⟨h1, h2⟩ | ⟨h1, h2, h3⟩ | ⟨h1, h2, h3, h4⟩ | ⟨h1, h2, h3, h4, h5⟩ | ⟨h1, h2, h3, h4, h5, h6⟩⟩ | ⟨hvv, h1, h2, h3, h4, h5, h6⟩
  case inr =>
    clear c0 c1 c2 c3 c4
    have hsv' := Lib.hid (fun W hT hB => hsv.out W db hT hB)
    rw [hvv] at hsv'
    clear hsv hcs' hvv
    have hL := hL'.out
    have hr2 := hr'.out
    go_region_held3 (fun wz => wz.cell? ⟨tb, 0, none⟩ = some (.int .i64 st) ∧ wz.cell? ⟨tb, 1, none⟩ = some (.int .i64 fo) ∧ wz.cell? ⟨tb, 2, none⟩ = some (.int .i64 no) ∧ wz.cell? ⟨tb, 35, none⟩ = some (.int .i64 R) ∧ wz.cell? ⟨tb, 36, none⟩ = some (.int .i64 S) ∧ LhdW w tb db r M wz) (repeat (first | assumption | apply LhdW.drewB))
      (first
        | (go_at_call 23; refine (hsv'.out _ (HT'.out.below (LhdW.fin (by assumption)).2.2) (hdb.out _ (LhdW.fin (by assumption)))).mono ?_; rintro e wq ⟨rfl, hbq⟩; have hsq := LhdW.nextB hr2 hbq (by assumption)))
    have hLL := Lib.hid (LhdW.fin hsq)
    clear hsq hbq hL hL' hdb
    have hrg := hLL.out.1.range
    go_upto_region 6 with fail
    refine wp_region_list ?_
    refine BigFrame.wpList_want (by rfl) (fun K hK => ?_)
    go_simp
    refine hK _ _ ?_
    clear hK K
    refine BigFrame.wpList_want (by rfl) (fun K hK => ?_)
    go_simp
    refine hK _ _ ?_
    clear hK K
    refine BigFrame.wpList_want (by rfl) (fun K hK => ?_)
    go_simp
    refine hK _ _ ?_
    clear hK K
    refine BigFrame.wpList_want (by rfl) (fun K hK => ?_)
    go_simp
    refine hK _ _ ?_
    clear hK K
    refine BigFrame.wpList_want (by rfl) (fun K hK => wp_load_mid 39 (.tmp 3) rfl tb 0 rfl r _ hrg hu rfl hri.out (hK _ _ ?_))
    clear hK K
    try simp only [Act.put, List.setIfInBounds_toArray, List.set_cons_zero, List.set_cons_succ]
    go_wp2_with fail
    refine (hver.out _ (HT'.out.below hLL.out.2.2)).mono ?_
    rintro e w12 ⟨rfl, hb12⟩
    have hb13 := Lib.hid (hLL.out.2.2.trans (hb12.mono hLL.out.2.2.size))
    go_wp2_with fail
    exact hfin.out _ hb13.out
  all_goals
    go_quiet (fail)
    have hLL : Hid (LhdW w tb db r M (W9.drewN nq)) := ⟨hL'.out.2.2.2.2.2.1, hL'.out.2.2.2.2.2.2.1, below_drewN' hL'.out.2.2.2.2.2.2.2 nq⟩
    clear c0 c1 c2 c3 c4 hL' hdb
    have hrg := hLL.out.1.range
    go_upto_region 6 with fail
    refine wp_region_list ?_
    refine BigFrame.wpList_want (by rfl) (fun K hK => ?_)
    go_simp
    refine hK _ _ ?_
    clear hK K
    refine BigFrame.wpList_want (by rfl) (fun K hK => ?_)
    go_simp
    refine hK _ _ ?_
    clear hK K
    refine BigFrame.wpList_want (by rfl) (fun K hK => ?_)
    go_simp
    refine hK _ _ ?_
    clear hK K
    refine BigFrame.wpList_want (by rfl) (fun K hK => ?_)
    go_simp
    refine hK _ _ ?_
    clear hK K
    refine BigFrame.wpList_want (by rfl) (fun K hK => wp_load_mid 39 (.tmp 3) rfl tb 0 rfl r _ hrg hu rfl hri.out (hK _ _ ?_))
    clear hK K
    try simp only [Act.put, List.setIfInBounds_toArray, List.set_cons_zero, List.set_cons_succ]
    go_wp2_with fail
    refine (hver.out _ (HT'.out.below hLL.out.2.2)).mono ?_
    rintro e w12 ⟨rfl, hb12⟩
    have hb13 := Lib.hid (hLL.out.2.2.trans (hb12.mono hLL.out.2.2.size))
    go_wp2_with fail
    exact hfin.out _ hb13.out
end Go.Proofs.YtgfmdjagamjpbaaDoor
namespace Go.Proofs.YtgfmdjagamjpbaaDoor.lawHeads
open Go.ChangeShapes Go.WideShapes Go.ChangeAt Go.RowKit Go.Mem
open Go.Proofs.YtgfmdjagamjpbaaDoor

set_option maxRecDepth 100000 in
theorem lifted (os : Os) (started : os.Started) (H : Type) (enc : TypeId × Value → H) :
    ReturnsInHanded {} Tryd.checked os 6 .any (fun w args => (Rows.storeHeadsSpec.pre enc Tryd.prog Tryd.f6 [] false w args ∧ laidMetH Tryd.prog laid2 w) ∧ sizedMet enc Tryd.prog Tryd.f6 (OpenSpec.ofChange Rows.storeHeadsSpec) false w args)
      (Rows.storeHeadsSpec.post enc Tryd.prog Tryd.f6 false true false false) := by
  refine returnsInHanded_of_change_and (C := Tryd.checked) (X := fun w _ => laidMetH Tryd.prog laid2 w) (fun _ _ _ hh h => h.of_heap hh) own started (by kernel_rfl) Tryd.func6
    (ChangeSpec.witness_shaped (enc := enc) (C := Tryd.checked) (os := os) (X := fun w _ => laidMetH Tryd.prog laid2 w) false (World.doorLaid Tryd.prog 400 os) #[.int .i64 0, .agg (headC 0 0 0 (List.replicate 32 0) 0 0).toArray] 8 rfl (World.shaped_of_RefB (by kernel_rfl) (by kernel_rfl)) (by kernel_rfl) (by kernel_rfl) (by kernel_rfl) (door_met os _)) ?_
  intro W base args ds gs before hval0 hW _ _ hL _
  have hval : ∀ (j : Nat) t v, Tryd.f6.params[j]? = some t → args[j]? = some v → Value.okWide Tryd.prog W .any base t v := hval0
  have hW' := hW
  obtain ⟨p, q, hA0, hV, rfl, hfz, hnd⟩ := hW
  have hA : DataW.TrodAll enc Tryd.prog W 0 (fun _ => true) true Tryd.f6.params.toList args.toList ds p := hA0
  rw [Tryd.params6] at hA hval
  obtain ⟨v0, vs0, d0, ds0, p0, q0, hargs, rfl, rfl, h0, r0⟩ := trodAll_cons hA
  obtain ⟨v1, vs1, d1, ds1, p1, q1, rfl, rfl, rfl, h1, r1⟩ := trodAll_cons r0
  obtain ⟨rfl, rfl, rfl⟩ := trodAll_nil r1
  obtain rfl : args = #[v0, v1] := by cases args; simp_all
  obtain ⟨rfl, rfl⟩ := trodVars_none hV
  have lt0 : ∀ x ∈ p0, x.block < W.heap.size := by obtain ⟨m, hm⟩ := h0; exact DataW.trod_lt m _ _ _ hm
  have lt1 : ∀ x ∈ p1, x.block < W.heap.size := by obtain ⟨m, hm⟩ := h1; exact DataW.trod_lt m _ _ _ hm
  have k0 := h0
  have k1 := h1
  obtain ⟨pub, rfl⟩ := okWide_int Tryd.underlying3 (hval 0 3 v0 rfl rfl)
  obtain ⟨cs, rfl, _⟩ := okWide_struct Tryd.underlying39 (hval 1 39 v1 rfl rfl)
  obtain ⟨m0, hm0⟩ := h0
  obtain ⟨pub', e0, ip⟩ := open_int1 (cs := [.int .i64 pub]) (by simpa [Value.cells] using hm0)
  obtain rfl : pub = pub' := by simpa using e0
  obtain ⟨m1, hm1⟩ := h1
  obtain ⟨st, fo, no, R, S, D, ecs, i0, i1, i2, i3, i4, hD⟩ := open_head (cs := cs.toList) (by simpa [Value.cells] using hm1)
  obtain rfl : cs = (headC st fo no D R S).toArray := by rw [← ecs]
  have hT := tabs_of_laid hL
  clear hA0 hval0 hm0 hm1 e0 ecs
  refine (heads_walk pub st fo no R S D ip i0 i1 i2 i3 hD W hT).mono fun e W' ⟨he, bel⟩ => ?_
  subst he
  exact ⟨_, rfl, _, _, _, [], _, [], hW', trodAll_mk1 (shut_bool Tryd.underlying4 _),
    (trodAll_cons_mk (Below.trod laidOut (by kernel_rfl) (of_decide_eq_true (by kernel_rfl)) k0 bel lt0) (trodAll_cons_mk (Below.trod laidOut (by kernel_rfl) (of_decide_eq_true (by kernel_rfl)) k1 bel lt1) trodAll_mk0)), rfl, bel.frame _, fun h => by cases h⟩

theorem over : Rows.StoreHeadsSaid :=
  OpenClaim.holds_of_wide 6 Tryd.f6 rfl rfl rfl rfl rfl rfl rfl ⟨rfl, rfl, rfl, rfl, rfl⟩ rfl rfl rfl rfl rfl (by kernel_rfl) Tryd.func6 (by kernel_rfl)
    (of_decide_eq_true (by kernel_rfl)) (by unfold Func.isWrapper; first | (rw [if_pos (by decide +kernel)]; kernel_rfl) | (rw [if_neg (by decide +kernel)]; exact ⟨rfl, rfl⟩))
    (fun os started H enc _ => lifted os started H enc)

theorem proved : Rows.StoreHeadsCardSaid :=
  Claim7.holds_tied_plain_at .later [] [.data, .data] true (true, "f488a35397967aefade51eef8664caa68c041adfc501cfb8a4ac36b015989e3d") false
    over (fun _ h => by cases h) (by kernel_rfl) (fun _ h => by cases h) storeHeads_row_tie rfl ⟨rfl, rfl⟩ (by kernel_rfl) rfl
    (fun f fn hf hfn => by
      obtain rfl : f = 6 := Option.some.inj ((show Tryd.prog.funcNamed "chartroom/chartroomlaw30.StoreHeads" = some 6 by kernel_rfl).symm.trans hf) |>.symm
      obtain rfl : fn = Tryd.f6 := (Option.some.inj (Tryd.func6.symm.trans hfn)).symm
      exact ⟨by kernel_rfl, fun j t ht => by
        rw [Tryd.params6] at ht
        have hm : t ∈ [3, 39] := by simpa using Array.mem_of_getElem? ht
        have hall : ([3, 39].all fun u => !Tryd.prog.wantsStandIn u) = true := by kernel_rfl
        exact (show Tryd.prog.wantsStandIn t = false by simpa using List.all_eq_true.1 hall t hm)⟩)
    (by kernel_rfl)
#print axioms proved
end Go.Proofs.YtgfmdjagamjpbaaDoor.lawHeads
