/- sane of chapter 36's laws a row's watch -/
import Derived.Test.YtlpgjdlkjahdgaaGreatDoorAl
import Derived.Test.YtlpgjdlkjahdgaaGreatDoorGc
import Derived.Test.YtlpgjdlkjahdgaaGreatDoorRd
namespace Go.Proofs.YtlpgjdlkjahdgaaGreatDoor
open Go.RowKit Go.Mem
open Go.Dr (Lst Rt Dir Wt exG)

theorem accept_at {K : Nat → Prop} {V V2 : Wt} {r : Rt} {s : Rt × Rt} {q : Int} {m : Nat} (h : Go.Dr.accW 4 V r = (V2, s, q)) (hm : V2.rs.length = m) (hr : OkQ r) {rr : List Value} (hrr : rC r = rr) {a : Option Addr} {n c : Nat} {w : World} (HT : Tabs w) (H : WM K w V a n c) :
 Calls Tryz.prog 45 #[.agg (wtC V.pub a n c).toArray, .agg rr.toArray] w (fun e w' => ∃ a' c', e = .returned (.tuple #[.agg (wtC V2.pub a' m c').toArray, .agg (spC s).toArray, .int .i64 q]) ∧ WM (fun b => (K b ∧ b < w.heap.size) ∨ w.heap.size ≤ b) w' V2 a' m c' ∧ Below w.heap.size w w') := by
 rw [← hrr]
 refine (gaccept_any K V a n c r hr w HT H).mono ?_
 rintro e w' ⟨_, a', n', c', rfl, hW, hb⟩
 rw [h] at hW ⊢
 obtain rfl : m = n' := by rw [← hm]; exact hW.len
 exact ⟨a', c', rfl, hW, hb⟩
theorem grown_at {K K2 : Nat → Prop} {D E : Dir} {l : List Lst} {i j p q : Nat} (h : Go.Dr.grownD 4 D l = E) (hi : D.ls.length = i) (hj : D.rs.length = j) (hp : E.ls.length = p) (hq : E.rs.length = q) {la : Option Addr} {lc : Nat} {ra : Option Addr} {rc : Nat} {a : Option Addr} {n c : Nat} {w : World} (HT : Tabs w) (H : DM K w D la i lc ra j rc) (HG : GS K2 w a n c l) :
 Calls Tryz.prog 82 #[.agg (dirC D.priv la i lc ra j rc).toArray, .slice a n c] w (fun e w' => ∃ la lc ra rc, e = .returned (.agg (dirC E.priv la p lc ra q rc).toArray) ∧ DM (fun b => (K b ∧ b < w.heap.size) ∨ w.heap.size ≤ b) w' E la p lc ra q rc ∧ Below w.heap.size w w') := by
 subst hi hj hp hq
 refine (grown_any K K2 D la lc ra rc l a n c w HT H HG).mono ?_
 rw [h]
 rintro e w' ⟨la, lc, ra, rc, rfl, hD, hb⟩
 exact ⟨la, lc, ra, rc, rfl, hD, hb⟩
theorem gs_blk {W : World} {nb : Nat} {l : List Lst} (h : Blk W nb 118 (gR l)) (ho : ∀ x ∈ l, OkG x) (hl : l.length ≤ 1000) : GS (fun _ => True) W (some ⟨nb, 0, none⟩) l.length l.length l := by
 obtain ⟨a, c, e, hG⟩ := own_gs (B := nb) (v := .slice (some ⟨nb, 0, none⟩) l.length l.length) (w := W) ⟨gR_len l, Or.inr ⟨nb, l.length, (gR l).toArray, rfl, Nat.le_refl _, h, Nat.le_refl _, by unfold maxLen; omega, by simp [gR_len], by rw [List.take_of_length_le (by rw [gR_len]; omega)]⟩⟩ rfl ho
 simp only [Value.slice.injEq] at e
 obtain ⟨rfl, _, rfl⟩ := e
 exact hG.imp (fun _ _ _ => trivial)

theorem gs_blkK {W : World} {nb : Nat} {l : List Lst} (h : Blk W nb 118 (gR l)) (ho : ∀ x ∈ l, OkG x) (hl : l.length ≤ 1000) : GS (fun b => nb ≤ b) W (some ⟨nb, 0, none⟩) l.length l.length l := by
 obtain ⟨a, c, e, hG⟩ := own_gs (B := nb) (v := .slice (some ⟨nb, 0, none⟩) l.length l.length) (w := W) ⟨gR_len l, Or.inr ⟨nb, l.length, (gR l).toArray, rfl, Nat.le_refl _, h, Nat.le_refl _, by unfold maxLen; omega, by simp [gR_len], by rw [List.take_of_length_le (by rw [gR_len]; omega)]⟩⟩ rfl ho
 simp only [Value.slice.injEq] at e
 obtain ⟨rfl, _, rfl⟩ := e
 exact hG
theorem wp_makeSlice_run {P : Program} {o : Oper} {a : Act} {w w' : World} {K : Act → World → Prop} {Q : Exit → Act → World → Prop} {v : Value} (t : TypeId) (l c : Operand) (h : o.op = .makeSlice t l c) (x y : Value) (hx : a.eval l = x) (hy : a.eval c = y) (hr : (Instr.makeSlice t x y).run P w = .ok v w') (hK : K (a.put o.dst v) w') : o.wp P a w K Q := by
 unfold Oper.wp execOp
 simp only [h, hx, hy, Sem.run_bind, hr, Result.andThen_ok, Sem.run_pure]
 exact hK
set_option maxRecDepth 20000 in
theorem root_zero (W : World) : (Instr.build 62 #[]).run Tryz.prog W = .ok (.agg (rC Go.Dr.zeroR).toArray) W := by kernel_rfl
theorem mkslice3 (W : World) : (Instr.makeSlice 111 (.int .i64 3) (.int .i64 3)).run Tryz.prog W = .ok (.slice (some ⟨W.heap.size, 0, none⟩) 3 3) (W.alloc (.cells (gR [Go.Dr.zeroL, Go.Dr.zeroL, Go.Dr.zeroL]).toArray 118)) := by kernel_rfl
theorem mkslice1 (W : World) : (Instr.makeSlice 111 (.int .i64 1) (.int .i64 1)).run Tryz.prog W = .ok (.slice (some ⟨W.heap.size, 0, none⟩) 1 1) (W.alloc (.cells (gR [Go.Dr.zeroL]).toArray 118)) := by kernel_rfl
theorem okz3 : ∀ x ∈ [Go.Dr.zeroL, Go.Dr.zeroL, Go.Dr.zeroL], OkG x := by
 intro x hx
 simp only [List.mem_cons, List.not_mem_nil, or_false] at hx
 rcases hx with rfl | rfl | rfl <;> exact okL_zero
theorem ok_exG : OkG exG := ⟨⟨by decide, by decide⟩, ⟨by decide, by decide⟩, ⟨by decide, by decide⟩, ⟨by decide, by decide⟩⟩

set_option maxRecDepth 100000 in
set_option maxHeartbeats 40000000 in
theorem sane36_any (w : World) (HT : Tabs w) : Calls Tryz.prog 34 #[] w (RetBo true w) := by
 have HT' := Lib.hid HT
 clear HT
 obtain ⟨pq, hpq⟩ : ∃ pq, Hid (pubB 4 5 = pq) := ⟨_, rfl⟩
 have hpb : Hid (I64 pq) := by have := pubB_bd 4 5; rw [hpq.out] at this; exact ⟨by omega, by omega⟩
 obtain ⟨r0, r1, r2, o3, s3, hG⟩ := Go.Dr.gex_there (b := 4) base_ok
 rw [hpq.out] at hG
 have hG' := Lib.hid hG
 clear hG
 obtain ⟨X, hX⟩ : ∃ X, X = RetBo true w := ⟨_, rfl⟩
 have hfin : Hid (∀ W, Below w.heap.size w W → X (.returned (.bool true)) W) := fun W hb => by rw [hX]; exact ⟨rfl, hb⟩
 rw [← hX]
 clear hX
 have hop : Hid (∀ W, Calls Tryz.prog 81 #[.int .i64 5] W (fun e w' => e = .returned (.tuple #[.agg (dirC 5 none 0 0 none 0 0).toArray, .int .i64 pq, .bool true]) ∧ Below W.heap.size W w')) := fun W => by
  have h := open36_any 5 W
  unfold Open36Post at h
  rw [publicK_t Go.Dr.key5, hpq.out] at h
  exact h
 clear hpq
 go_enter Tryz.func34, Tryz.ntmps34
 go_wp2_with fail
 refine (hop.out _).mono ?_
 rintro e w1 ⟨rfl, hbw0⟩
 have hbw := Lib.hid hbw0
 clear hbw0 hop
 have hw1s : Hid (w.heap.size ≤ w1.heap.size) := hbw.out.size
 obtain ⟨v1, hP⟩ : ∃ V, Hid (PutR 113 (w1.alloc (.cells (dirC 0 none 0 0 none 0 0 : List Value).toArray 113)) V w1.heap.size 113 (dirC 5 none 0 0 none 0 0)) := put_row (Blk.new w1 113 (dirC 0 none 0 0 none 0 0)) rfl (sizeDr) (dr_one _ _ _ _ _ _ _)
 have hst := below_grown ((Below.refl _ w1).alloc (Nat.le_refl _) _) hP.out.grown (by simp) (Nat.le_refl _)
 replace hbw := Lib.hid (hbw.out.trans (hst.mono hbw.out.size))
 clear hst
 have hB1 := Lib.hid hP.out.blk
 obtain ⟨d1, hd1⟩ : ∃ b, Hid (w1.heap.size = b) := ⟨_, rfl⟩
 rw [hd1.out] at hB1
 have hd1w : Hid (w.heap.size ≤ d1) := by rw [← hd1.out]; exact hw1s.out
 go_upto_region 2 with (first
  | (refine wpList_store_mid (by rfl) 113 (.tmp 1) (.tmp 28) (by rfl) w1.heap.size 0 (dirC 5 none 0 0 none 0 0).toArray (by rfl) (by rfl) hP.out.there hP.out.info (by simpa using hP.out.one) ?_
     generalize hWq : World.setCells _ _ _ _ = Wa
     obtain rfl : v1 = Wa := by rw [← hWq]; exact hP.out.eq
     clear hWq
     rw [hd1.out]))
 clear hP
 refine wp_region_held_drew (S := fun wz => Below d1 v1 wz) (by kernel_rfl) ((Below.refl _ v1).drew) (fun hHeld => ?_)
 have hBd : Blk v1.drew d1 113 (dirC 5 none 0 0 none 0 0) := hB1.out
 have hd1l : d1 < v1.drew.heap.size := hB1.out.lt
 generalize hWd : v1.drew = Wd at *
 clear hWd
 refine share (G := ∀ (nb : Nat) la lc ra rc V3, Blk V3 d1 113 (dirC 5 la 0 lc ra 3 rc) → DM (fun _ => True) V3 ⟨5, [], [r0, r1, r2]⟩ la 0 lc ra 3 rc → Below d1 v1 V3 → (?G2 : Nat → Option Addr → Nat → Option Addr → Nat → World → Prop) nb la lc ra rc V3) ?h2 ?k2
 case h2 =>
  intro K2
  refine Go.rd (rs := [0, 1]) ?_
  refine tR rfl (fun K hK => ?_) (tR rfl (fun K hK => ?_) Go.rn)
  case refine_1 =>
   have q0 := hBd.at_ (i := 0) (x := .int .i64 5) rfl
   have q1 := hBd.at_ (i := 1) (x := .slice none 0 0) rfl
   have q2 := hBd.at_ (i := 2) (x := .slice none 0 0) rfl
   show Oper.wp _ _ _ _ K _
   go_simp
   refine hK.out _ _ hHeld (fun hHeld2 => ?_)
   clear hK K q0 q1 q2 hHeld2
   try simp only [Act.put, sA, s0, s1]
   refine tO 1 rfl (fun K hK => ?_)
   refine wp_makeSlice_run _ _ _ rfl _ _ rfl rfl (mkslice3 Wd) ?_
   have hst := (Below.refl Wd.heap.size Wd).alloc (Nat.le_refl _) (.cells (gR [Go.Dr.zeroL, Go.Dr.zeroL, Go.Dr.zeroL]).toArray 118)
   have hNG := gs_blk (Blk.new Wd 118 (gR [Go.Dr.zeroL, Go.Dr.zeroL, Go.Dr.zeroL])) okz3 (by decide)
   have hBn := hBd.below hst hd1l
   refine hK.out _ _ (hHeld.trans (hst.mono (by omega))) (fun hHeld2 => ?_)
   clear hK K
   have hsn := hst.size
   generalize Wd.alloc (.cells (gR [Go.Dr.zeroL, Go.Dr.zeroL, Go.Dr.zeroL]).toArray 118) = Wn at hNG hBn hHeld2 hsn ⊢
   generalize hnb : Wd.heap.size = nb at hNG hsn ⊢
   try simp only [Act.put, sA, s0, s1]
   refine tO 2 rfl (fun K hK => ?_)
   go_simp
   go_at_call 82
   refine (grown_at (K := fun b => b ≠ d1) hG'.out.g1 rfl rfl rfl rfl (HT'.out.below (hbw.out.trans (hHeld2.mono hd1w.out))) ⟨⟨by decide, by decide⟩, RS.nil0 _ _ _, RS.nil0 _ _ _⟩ hNG).mono ?_
   rintro e Wg ⟨la, lc, ra, rc, rfl, hDg, hst⟩
   refine hK.out _ _ (hHeld2.trans (hst.mono (by omega))) (fun hHeld3 => ?_)
   have hBg := hBn.below hst (by omega)
   have hsg := hst.size
   clear hK K
   refine tO 3 rfl (fun K hK => ?_)
   obtain ⟨V3, hQ⟩ := put_row (ty := 113) hBg (x := dirC 5 la 0 lc ra 3 rc) rfl sizeDr (dr_one _ _ _ _ _ _ _)
   refine wp_store_mid 113 _ _ rfl d1 0 (dirC 5 la 0 lc ra 3 rc).toArray (by rfl) (by rfl) hQ.there hQ.info (by simpa using hQ.one) ?_
   generalize hWq : World.setCells _ _ _ _ = Wa
   obtain rfl : V3 = Wa := by rw [← hWq]; exact hQ.eq
   clear hWq
   have hD3 : DM (fun _ => True) V3 ⟨5, [], [r0, r1, r2]⟩ la 0 lc ra 3 rc := (hDg.keep (Keeps.grown hQ.grown (fun b hb e => by omega))).imp (fun _ _ _ => trivial)
   have hB3 := hQ.blk
   refine hK.out _ _ (below_grown hHeld3 hQ.grown (by omega) (Nat.le_refl _)) (fun hHeld4 => ?_)
   clear hK K
   try simp only [Act.put]
   refine wpAnyH_done (by kernel_rfl) ?_ _
   exact K2 nb la lc ra rc V3 hB3 hD3 hHeld4
  case refine_2 =>
   refine wp_makeSlice_run _ _ _ rfl _ _ rfl rfl (mkslice3 Wd) ?_
   have hst := (Below.refl Wd.heap.size Wd).alloc (Nat.le_refl _) (.cells (gR [Go.Dr.zeroL, Go.Dr.zeroL, Go.Dr.zeroL]).toArray 118)
   have hNG := gs_blk (Blk.new Wd 118 (gR [Go.Dr.zeroL, Go.Dr.zeroL, Go.Dr.zeroL])) okz3 (by decide)
   have hBn := hBd.below hst hd1l
   refine hK.out _ _ (hHeld.trans (hst.mono (by omega))) (fun hHeld2 => ?_)
   clear hK K
   have hsn := hst.size
   generalize Wd.alloc (.cells (gR [Go.Dr.zeroL, Go.Dr.zeroL, Go.Dr.zeroL]).toArray 118) = Wn at hNG hBn hHeld2 hsn ⊢
   generalize hnb : Wd.heap.size = nb at hNG hsn ⊢
   try simp only [Act.put, sA, s0, s1]
   refine tO 0 rfl (fun K hK => ?_)
   have q0 := hBn.at_ (i := 0) (x := .int .i64 5) rfl
   have q1 := hBn.at_ (i := 1) (x := .slice none 0 0) rfl
   have q2 := hBn.at_ (i := 2) (x := .slice none 0 0) rfl
   show Oper.wp _ _ _ _ K _
   go_simp
   refine hK.out _ _ hHeld2 (fun hHeld2 => ?_)
   clear hK K q0 q1 q2
   try simp only [Act.put, sA, s0, s1]
   refine tO 2 rfl (fun K hK => ?_)
   go_simp
   go_at_call 82
   refine (grown_at (K := fun b => b ≠ d1) hG'.out.g1 rfl rfl rfl rfl (HT'.out.below (hbw.out.trans (hHeld2.mono hd1w.out))) ⟨⟨by decide, by decide⟩, RS.nil0 _ _ _, RS.nil0 _ _ _⟩ hNG).mono ?_
   rintro e Wg ⟨la, lc, ra, rc, rfl, hDg, hst⟩
   refine hK.out _ _ (hHeld2.trans (hst.mono (by omega))) (fun hHeld3 => ?_)
   have hBg := hBn.below hst (by omega)
   have hsg := hst.size
   clear hK K
   refine tO 3 rfl (fun K hK => ?_)
   obtain ⟨V3, hQ⟩ := put_row (ty := 113) hBg (x := dirC 5 la 0 lc ra 3 rc) rfl sizeDr (dr_one _ _ _ _ _ _ _)
   refine wp_store_mid 113 _ _ rfl d1 0 (dirC 5 la 0 lc ra 3 rc).toArray (by rfl) (by rfl) hQ.there hQ.info (by simpa using hQ.one) ?_
   generalize hWq : World.setCells _ _ _ _ = Wa
   obtain rfl : V3 = Wa := by rw [← hWq]; exact hQ.eq
   clear hWq
   have hD3 : DM (fun _ => True) V3 ⟨5, [], [r0, r1, r2]⟩ la 0 lc ra 3 rc := (hDg.keep (Keeps.grown hQ.grown (fun b hb e => by omega))).imp (fun _ _ _ => trivial)
   have hB3 := hQ.blk
   refine hK.out _ _ (below_grown hHeld3 hQ.grown (by omega) (Nat.le_refl _)) (fun hHeld4 => ?_)
   clear hK K
   try simp only [Act.put]
   refine wpAnyH_done (by kernel_rfl) ?_ _
   exact K2 nb la lc ra rc V3 hB3 hD3 hHeld4
 case k2 =>
  intro nb la lc ra rc v3 hB30 hD30 hst
  replace hB1 := Lib.hid hB30
  have hD1 := Lib.hid hD30
  replace hbw := Lib.hid (hbw.out.trans (hst.mono hd1w.out))
  clear hB30 hD30 hst
  have y0 := hB1.out.at_ (i := 0) (x := .int .i64 5) rfl
  have y1 := hB1.out.at_ (i := 1) (x := .slice la 0 lc) rfl
  have y2 := hB1.out.at_ (i := 2) (x := .slice ra 3 rc) rfl
  go_wp2_with fail
  clear y0 y1 y2
  generalize hWn : World.alloc _ _ = Wn
  have hst : Below v3.heap.size v3 Wn := by rw [← hWn]; exact (Below.refl _ v3).alloc (Nat.le_refl _) _
  have hNG0 := gs_blk (l := [exG]) (W := Wn) (nb := v3.heap.size) (by rw [← hWn]; exact Blk.new v3 _ (gR [exG])) (by intro x hx; rw [List.mem_singleton] at hx; subst hx; exact ok_exG) (by decide)
  have hNG : Hid (GS (fun _ => True) Wn (some ⟨v3.heap.size, 0, none⟩) 1 1 [exG]) := hNG0
  clear hWn hNG0
  replace hB1 := Lib.hid (hB1.out.below hst hB1.out.lt)
  replace hD1 := Lib.hid (hD1.out.below hst)
  replace hbw := Lib.hid (hbw.out.trans (hst.mono hbw.out.size))
  clear hst
  refine (grown_at (K := fun _ => True) hG'.out.g2 rfl rfl rfl rfl (HT'.out.below hbw.out) hD1.out hNG.out).mono ?_
  rintro e w4 ⟨la2, lc2, ra2, rc2, rfl, hD40, hst⟩
  replace hB1 := Lib.hid (hB1.out.below hst hB1.out.lt)
  replace hD1 := Lib.hid (hD1.out.below hst)
  replace hbw := Lib.hid (hbw.out.trans (hst.mono hbw.out.size))
  have hD4 : Hid (DM (fun _ => True) w4 ⟨5, [exG], [r0, r1, r2, o3]⟩ la2 1 lc2 ra2 4 rc2) := hD40.imp fun _ _ _ => trivial
  clear hst hD40 hNG
  obtain ⟨v4, hP⟩ : ∃ V, Hid (PutR 113 (w4.alloc (.cells (dirC 0 none 0 0 none 0 0 : List Value).toArray 113)) V w4.heap.size 113 (dirC 5 la2 1 lc2 ra2 4 rc2)) := put_row (Blk.new w4 113 (dirC 0 none 0 0 none 0 0)) rfl (sizeDr) (dr_one _ _ _ _ _ _ _)
  have hst := below_grown ((Below.refl _ w4).alloc (Nat.le_refl _) _) hP.out.grown (by simp) (Nat.le_refl _)
  replace hB1 := Lib.hid (hB1.out.below hst hB1.out.lt)
  replace hD1 := Lib.hid (hD1.out.below hst)
  replace hD4 := Lib.hid (hD4.out.below hst)
  replace hbw := Lib.hid (hbw.out.trans (hst.mono hbw.out.size))
  clear hst
  have hB4 := Lib.hid hP.out.blk
  go_upto_region 4 with (first
   | (refine wpList_store_mid (by rfl) 113 (.tmp 4) (.tmp 37) (by rfl) w4.heap.size 0 (dirC 5 la2 1 lc2 ra2 4 rc2).toArray (by rfl) (by rfl) hP.out.there hP.out.info (by simpa using hP.out.one) ?_
      generalize hWq : World.setCells _ _ _ _ = Wa
      obtain rfl : v4 = Wa := by rw [← hWq]; exact hP.out.eq
      clear hWq))
  clear hP
  refine share (G := ∀ (q3 : Nat) (nb2 : Nat) (xa : Option Addr) (xc : Nat) (ya : Option Addr) (yc : Nat) (WZ : World), (Below v4.heap.size v4 WZ) → (Blk WZ q3 113 (dirC 5 xa 0 xc ya 4 yc)) → (v4.heap.size ≤ q3) → (GS (fun b => b ≠ q3) WZ (some ⟨nb2, 0, none⟩) 1 1 [Go.Dr.zeroL]) → (DM (fun b => b ≠ q3) WZ ⟨5, [], [r0, r1, r2, s3]⟩ xa 0 xc ya 4 yc) → (?GfinR4 : Nat → Nat → Option Addr → Nat → Option Addr → Nat → World → Prop) q3 nb2 xa xc ya yc WZ) ?hfinR4 ?kfinR4
  case' hfinR4 =>
   intro KfinR4
  case' hfinR4 =>
   refine share (G := ∀ (q3 : Nat) (nb2 : Nat) (xa : Option Addr) (xc : Nat) (ya : Option Addr) (yc : Nat) (WZ : World), (Below v4.heap.size v4 WZ) → (Blk WZ q3 113 (dirC 0 none 0 0 none 0 0)) → (v4.heap.size ≤ q3) → (GS (fun b => b ≠ q3) WZ (some ⟨nb2, 0, none⟩) 1 1 [Go.Dr.zeroL]) → (DM (fun b => b ≠ q3) WZ ⟨5, [], [r0, r1, r2, s3]⟩ xa 0 xc ya 4 yc) → (?Gs2_3_R4 : Nat → Nat → Option Addr → Nat → Option Addr → Nat → World → Prop) q3 nb2 xa xc ya yc WZ) ?hs2_3_R4 ?ks2_3_R4
  case' hs2_3_R4 => intro Ks2_3_R4
  case' hs2_3_R4 =>
   refine share (G := ∀ (nb2 : Nat) (xa : Option Addr) (xc : Nat) (ya : Option Addr) (yc : Nat) (WZ : World), (Below v4.heap.size v4 WZ) → (GS (fun _ => True) WZ (some ⟨nb2, 0, none⟩) 1 1 [Go.Dr.zeroL]) → (DM (fun _ => True) WZ ⟨5, [], [r0, r1, r2, s3]⟩ xa 0 xc ya 4 yc) → (?Gs2_R4 : Nat → Option Addr → Nat → Option Addr → Nat → World → Prop) nb2 xa xc ya yc WZ) ?hs2_R4 ?ks2_R4
  case' hs2_R4 => intro Ks2_R4
  case' hs2_R4 =>
   refine share (G := ∀ (q3 : Nat) (nb2 : Nat) (WZ : World), (Below v4.heap.size v4 WZ) → (Blk WZ q3 113 (dirC 0 none 0 0 none 0 0)) → (v4.heap.size ≤ q3) → (GS (fun b => b ≠ q3) WZ (some ⟨nb2, 0, none⟩) 1 1 [Go.Dr.zeroL]) → (?Gs1_3_R4 : Nat → Nat → World → Prop) q3 nb2 WZ) ?hs1_3_R4 ?ks1_3_R4
  case' hs1_3_R4 => intro Ks1_3_R4
  case' hs1_3_R4 =>
   refine share (G := ∀ (nb2 : Nat) (WZ : World), (Below v4.heap.size v4 WZ) → (GS (fun _ => True) WZ (some ⟨nb2, 0, none⟩) 1 1 [Go.Dr.zeroL]) → (?Gs1_R4 : Nat → World → Prop) nb2 WZ) ?hs1_R4 ?ks1_R4
  case' hs1_R4 => intro Ks1_R4
  case' hs1_R4 =>
   refine share (G := ∀ (q3 : Nat) (WZ : World), (Below v4.heap.size v4 WZ) → (Blk WZ q3 113 (dirC 0 none 0 0 none 0 0)) → (v4.heap.size ≤ q3) → (?Gs0_3_R4 : Nat → World → Prop) q3 WZ) ?hs0_3_R4 ?ks0_3_R4
  case' hs0_3_R4 => intro Ks0_3_R4
  case hs0_3_R4 =>
   refine wp_region_held_drew (S := fun wz => Below v4.heap.size v4 wz) (by kernel_rfl) ((Below.refl _ v4).drew) (fun hHeld => ?_)
   generalize v4.drew = WZ at *
   refine tX 0 rfl (fun wz hSw => And.intro ((hB1.out.below hSw hB1.out.lt).at_ (i := 0) (x := .int .i64 5) rfl) (And.intro ((hB1.out.below hSw hB1.out.lt).at_ (i := 1) (x := .slice la 0 lc) rfl) ((hB1.out.below hSw hB1.out.lt).at_ (i := 2) (x := .slice ra 3 rc) rfl))) hHeld ?_
   refine Go.rd (rs := [1, 3]) ?_
   refine tR rfl (fun K hK => ?_) (tR rfl (fun K hK => ?_) Go.rn)
   case refine_1 =>
    refine wp_makeSlice_run _ _ _ rfl _ _ rfl rfl (mkslice1 WZ) ?_
    have hst := (Below.refl WZ.heap.size WZ).alloc (Nat.le_refl _) (.cells (gR [Go.Dr.zeroL]).toArray 118)
    have hNB0 : GS (fun b => WZ.heap.size ≤ b) (WZ.alloc (.cells (gR [Go.Dr.zeroL]).toArray 118)) (some ⟨WZ.heap.size, 0, none⟩) 1 1 [Go.Dr.zeroL] := gs_blkK (l := [Go.Dr.zeroL]) (Blk.new WZ 118 (gR [Go.Dr.zeroL])) (by intro x hx; rw [List.mem_singleton] at hx; subst hx; exact okL_zero) (by decide)
    generalize hwq : WZ.alloc (.cells (gR [Go.Dr.zeroL]).toArray 118) = wq at hst hNB0 ⊢
    obtain ⟨nb2, hnb2⟩ : ∃ b, WZ.heap.size = b := ⟨_, rfl⟩
    have hNB1 : GS (fun b => WZ.heap.size ≤ b) wq (some ⟨nb2, 0, none⟩) 1 1 [Go.Dr.zeroL] := by rw [← hnb2]; exact hNB0
    rw [show (Value.slice (some ⟨WZ.heap.size, 0, none⟩) 1 1) = Value.slice (some ⟨nb2, 0, none⟩) 1 1 by rw [hnb2]]

    refine hK.out _ _ (hHeld.trans (hst.mono hHeld.size)) (fun hHeld2 => ?_)
    clear hK K
    try simp only [Act.put, sA, s0, s1]
    exact Ks1_R4 nb2 wq (hHeld2) (hNB1.imp (fun b hb hk => by first | trivial | (have h9 := hB3.lt; omega)))
   case refine_2 =>
    go_simp
    refine hK.out _ _ (hHeld.alloc hHeld.size _) (fun hHeld2 => ?_)
    clear hK K
    try simp only [Act.put, sA, s0, s1]
    generalize hW2 : World.alloc WZ _ = W2
    rw [hW2] at hHeld2
    generalize hq : WZ.heap.size = q3
    have hBn : Blk W2 q3 113 (dirC 0 none 0 0 none 0 0) := by rw [← hW2, ← hq]; exact Blk.new _ _ _
    have hLn := hHeld.size
    rw [hq] at hLn
    clear hW2 hq
    exact Ks0_3_R4 q3 W2 (hHeld2) (hBn) (hLn)
  case ks0_3_R4 =>
   intro q3 WZ hHeld hB3 hL3
   refine tO 1 rfl (fun K hK => ?_)
   refine wp_makeSlice_run _ _ _ rfl _ _ rfl rfl (mkslice1 WZ) ?_
   have hst := (Below.refl WZ.heap.size WZ).alloc (Nat.le_refl _) (.cells (gR [Go.Dr.zeroL]).toArray 118)
   have hNB0 : GS (fun b => WZ.heap.size ≤ b) (WZ.alloc (.cells (gR [Go.Dr.zeroL]).toArray 118)) (some ⟨WZ.heap.size, 0, none⟩) 1 1 [Go.Dr.zeroL] := gs_blkK (l := [Go.Dr.zeroL]) (Blk.new WZ 118 (gR [Go.Dr.zeroL])) (by intro x hx; rw [List.mem_singleton] at hx; subst hx; exact okL_zero) (by decide)
   generalize hwq : WZ.alloc (.cells (gR [Go.Dr.zeroL]).toArray 118) = wq at hst hNB0 ⊢
   obtain ⟨nb2, hnb2⟩ : ∃ b, WZ.heap.size = b := ⟨_, rfl⟩
   have hNB1 : GS (fun b => WZ.heap.size ≤ b) wq (some ⟨nb2, 0, none⟩) 1 1 [Go.Dr.zeroL] := by rw [← hnb2]; exact hNB0
   rw [show (Value.slice (some ⟨WZ.heap.size, 0, none⟩) 1 1) = Value.slice (some ⟨nb2, 0, none⟩) 1 1 by rw [hnb2]]

   refine hK.out _ _ (hHeld.trans (hst.mono hHeld.size)) (fun hHeld2 => ?_)
   clear hK K
   try simp only [Act.put, sA, s0, s1]
   exact Ks1_3_R4 q3 nb2 wq (hHeld2) (hB3.below hst hB3.lt) (hL3) (hNB1.imp (fun b hb hk => by first | trivial | (have h9 := hB3.lt; omega)))
  case ks1_R4 =>
   intro nb2 WZ hHeld hNB
   refine Go.rd (rs := [2, 3]) ?_
   refine tR rfl (fun K hK => ?_) (tR rfl (fun K hK => ?_) Go.rn)
   case refine_1 =>
    go_simp
    go_at_call 82
    refine (grown_at (K := fun b => b < v4.heap.size) hG'.out.g3 rfl rfl rfl rfl (HT'.out.below (hbw.out.trans (hHeld.mono hbw.out.size))) ((hD1.out.imp (K' := fun b => b < v4.heap.size) (fun b hb _ => hb)).below hHeld) hNB).mono ?_
    rintro e wq ⟨xa, xc, ya, yc, rfl, hDx, hst⟩


    refine hK.out _ _ (hHeld.trans (hst.mono hHeld.size)) (fun hHeld2 => ?_)
    clear hK K
    exact Ks2_R4 nb2 xa xc ya yc wq (hHeld2) (hNB.below hst) (hDx.imp (fun b hb hk => by first | trivial | (have h9 := hB3.lt; omega)))
   case refine_2 =>
    go_simp
    refine hK.out _ _ (hHeld.alloc hHeld.size _) (fun hHeld2 => ?_)
    clear hK K
    try simp only [Act.put, sA, s0, s1]
    generalize hW2 : World.alloc WZ _ = W2
    rw [hW2] at hHeld2
    generalize hq : WZ.heap.size = q3
    have hBn : Blk W2 q3 113 (dirC 0 none 0 0 none 0 0) := by rw [← hW2, ← hq]; exact Blk.new _ _ _
    have hLn := hHeld.size
    rw [hq] at hLn
    have hNB' : GS (fun b => b ≠ q3) W2 (some ⟨nb2, 0, none⟩) 1 1 [Go.Dr.zeroL] := by rw [← hW2]; exact ((hNB.imp (K' := (fun b => b ≠ q3)) (fun b hb hk => by first | omega | (simp only at hk ⊢; omega) | (show _ ≠ _; omega) | (show _ ∧ _; omega)))).below ((Below.refl _ WZ).alloc (Nat.le_refl _) _)
    clear hW2 hq
    exact Ks1_3_R4 q3 nb2 W2 (hHeld2) (hBn) (hLn) (hNB')
  case ks1_3_R4 =>
   intro q3 nb2 WZ hHeld hB3 hL3 hNB
   refine tO 2 rfl (fun K hK => ?_)
   go_simp
   go_at_call 82
   refine (grown_at (K := fun b => b < v4.heap.size) hG'.out.g3 rfl rfl rfl rfl (HT'.out.below (hbw.out.trans (hHeld.mono hbw.out.size))) ((hD1.out.imp (K' := fun b => b < v4.heap.size) (fun b hb _ => hb)).below hHeld) hNB).mono ?_
   rintro e wq ⟨xa, xc, ya, yc, rfl, hDx, hst⟩


   refine hK.out _ _ (hHeld.trans (hst.mono hHeld.size)) (fun hHeld2 => ?_)
   clear hK K
   exact Ks2_3_R4 q3 nb2 xa xc ya yc wq (hHeld2) (hB3.below hst hB3.lt) (hL3) (hNB.below hst) (hDx.imp (fun b hb hk => by first | trivial | (have h9 := hB3.lt; omega)))
  case ks2_R4 =>
   intro nb2 xa xc ya yc WZ hHeld hNB hDM
   refine tO 3 rfl (fun K hK => ?_)
   go_simp
   refine hK.out _ _ (hHeld.alloc hHeld.size _) (fun hHeld2 => ?_)
   clear hK K
   try simp only [Act.put, sA, s0, s1]
   generalize hW2 : World.alloc WZ _ = W2
   rw [hW2] at hHeld2
   generalize hq : WZ.heap.size = q3
   have hBn : Blk W2 q3 113 (dirC 0 none 0 0 none 0 0) := by rw [← hW2, ← hq]; exact Blk.new _ _ _
   have hLn := hHeld.size
   rw [hq] at hLn
   have hNB' : GS (fun b => b ≠ q3) W2 (some ⟨nb2, 0, none⟩) 1 1 [Go.Dr.zeroL] := by rw [← hW2]; exact ((hNB.imp (K' := (fun b => b ≠ q3)) (fun b hb hk => by first | omega | (simp only at hk ⊢; omega) | (show _ ≠ _; omega) | (show _ ∧ _; omega)))).below ((Below.refl _ WZ).alloc (Nat.le_refl _) _)
   have hDM' : DM (fun b => b ≠ q3) W2 ⟨5, [], [r0, r1, r2, s3]⟩ xa 0 xc ya 4 yc := by rw [← hW2]; exact ((hDM.imp (K' := (fun b => b ≠ q3)) (fun b hb hk => by first | omega | (simp only at hk ⊢; omega) | (show _ ≠ _; omega) | (show _ ∧ _; omega)))).below ((Below.refl _ WZ).alloc (Nat.le_refl _) _)
   clear hW2 hq
   exact Ks2_3_R4 q3 nb2 xa xc ya yc W2 (hHeld2) (hBn) (hLn) (hNB') (hDM')
  case ks2_3_R4 =>
   intro q3 nb2 xa xc ya yc WZ hHeld hB3 hL3 hNB hDM
   refine Go.rd (rs := [4]) ?_
   refine AllReadyH.cons (o := ⟨none, .store 113 (.tmp 5) (.tmp 40), 0, "law.go:39", #[⟨3, .data⟩, ⟨2, .data⟩, ⟨2, .chain⟩, ⟨0, .phase⟩, ⟨1, .phase⟩, ⟨2, .phase⟩, ⟨3, .phase⟩], none⟩) rfl (fun K hK => ?_) AllReadyH.nil
   obtain ⟨W3, hQ⟩ := put_row (ty := 113) hB3 (x := dirC 5 xa 0 xc ya 4 yc) (rfl) (sizeDr) (dr_one _ _ _ _ _ _ _)
   have hHeld2 := below_grown hHeld hQ.grown hHeld.size hL3
   rw [if_pos (by rfl)]
   refine wp_store_mid 113 _ _ rfl q3 0 (dirC 5 xa 0 xc ya 4 yc : List Value).toArray (by rfl) (by rfl) hQ.there hQ.info (by simpa using hQ.one) ?_
   generalize hWq : World.setCells _ _ _ _ = Wa
   obtain rfl : W3 = Wa := by rw [← hWq]; exact hQ.eq
   clear hWq
   refine hK.out _ _ hHeld2 (fun _ => ?_)
   clear hK K
   try simp only [Act.put]
   refine wpAnyH_done (by kernel_rfl) ?_ _
   exact KfinR4 q3 nb2 xa xc ya yc W3 (hHeld2) (hQ.blk) (hL3) (hNB.keep (Keeps.grown hQ.grown (fun b hb => hb))) (hDM.keep (Keeps.grown hQ.grown (fun b hb => hb)))
  case kfinR4 =>
   intro q3 nb2 xa xc ya yc v5 hst hB30 _ hNB hD50
   replace hB1 := Lib.hid (hB1.out.below hst hB1.out.lt)
   replace hD1 := Lib.hid (hD1.out.below hst)
   replace hD4 := Lib.hid (hD4.out.below hst)
   replace hB4 := Lib.hid (hB4.out.below hst hB4.out.lt)
   replace hbw := Lib.hid (hbw.out.trans (hst.mono hbw.out.size))
   have hB5 := Lib.hid hB30
   have hD5 : Hid (DM (fun _ => True) v5 ⟨5, [], [r0, r1, r2, s3]⟩ xa 0 xc ya 4 yc) := hD50.imp (fun _ _ _ => trivial)
   clear hst hB30 hNB hD50
   have y0 := hB1.out.at_ (i := 0) (x := .int .i64 5) rfl
   have y1 := hB1.out.at_ (i := 1) (x := .slice la 0 lc) rfl
   have y2 := hB1.out.at_ (i := 2) (x := .slice ra 3 rc) rfl
   have z0 := hB4.out.at_ (i := 0) (x := .int .i64 5) rfl
   have z1 := hB4.out.at_ (i := 1) (x := .slice la2 1 lc2) rfl
   have z2 := hB4.out.at_ (i := 2) (x := .slice ra2 4 rc2) rfl
   have x0 := hB5.out.at_ (i := 0) (x := .int .i64 5) rfl
   have x1 := hB5.out.at_ (i := 1) (x := .slice xa 0 xc) rfl
   have x2 := hB5.out.at_ (i := 2) (x := .slice ya 4 yc) rfl
   go_upto_region 7 with fail
   clear y0 y1 y2 z0 z1 z2 x0 x1 x2
   have ok0 := Lib.hid (hD1.out.qs.okAt (k := 0) (x := r0) rfl)
   have ok1 := Lib.hid (hD1.out.qs.okAt (k := 1) (x := r1) rfl)
   have ok2 := Lib.hid (hD1.out.qs.okAt (k := 2) (x := r2) rfl)
   have ok3 := Lib.hid (hD4.out.qs.okAt (k := 3) (x := o3) rfl)
   have ok4 := Lib.hid (hD5.out.qs.okAt (k := 3) (x := s3) rfl)
   obtain ⟨b1, p1, era, _⟩ := hD1.out.qs.cells (k := 0) (x := r0) rfl
   subst era
   obtain ⟨b4, p4, era, _⟩ := hD4.out.qs.cells (k := 0) (x := r0) rfl
   subst era
   obtain ⟨b5, p5, era, _⟩ := hD5.out.qs.cells (k := 0) (x := r0) rfl
   subst era
   obtain ⟨g0, hg0⟩ : ∃ r, Hid (rC r0 = r) := ⟨_, rfl⟩
   have hi0 : Hid ((Tryz.prog.info? 62).map (·.size) = some g0.length) := by show _ = _; rw [← hg0.out, rC_length ok0.out]; exact sizeR
   obtain ⟨g1, hg1⟩ : ∃ r, Hid (rC r1 = r) := ⟨_, rfl⟩
   have hi1 : Hid ((Tryz.prog.info? 62).map (·.size) = some g1.length) := by show _ = _; rw [← hg1.out, rC_length ok1.out]; exact sizeR
   obtain ⟨g2, hg2⟩ : ∃ r, Hid (rC r2 = r) := ⟨_, rfl⟩
   have hi2 : Hid ((Tryz.prog.info? 62).map (·.size) = some g2.length) := by show _ = _; rw [← hg2.out, rC_length ok2.out]; exact sizeR
   obtain ⟨g3, hg3⟩ : ∃ r, Hid (rC o3 = r) := ⟨_, rfl⟩
   have hi3 : Hid ((Tryz.prog.info? 62).map (·.size) = some g3.length) := by show _ = _; rw [← hg3.out, rC_length ok3.out]; exact sizeR
   obtain ⟨g4, hg4⟩ : ∃ r, Hid (rC s3 = r) := ⟨_, rfl⟩
   have hi4 : Hid ((Tryz.prog.info? 62).map (·.size) = some g4.length) := by show _ = _; rw [← hg4.out, rC_length ok4.out]; exact sizeR
   obtain ⟨zS, hzS⟩ : ∃ z, Hid (spC Go.Dr.zeroS = z) := ⟨_, rfl⟩
   have hzo : Hid ((Tryz.prog.info? 64).map (·.size) = some zS.length) := by rw [← hzS.out]; exact sizeSp' okZS
   have hz1 : Hid (∀ u ∈ zS, u.oneCell' = true) := by rw [← hzS.out]; exact spC_one _
   have okS3 : OkS (o3, s3) := ⟨ok3.out, ok4.out⟩
   obtain ⟨sS, hsS⟩ : ∃ z, Hid (spC (o3, s3) = z) := ⟨_, rfl⟩
   have hso : Hid ((Tryz.prog.info? 64).map (·.size) = some sS.length) := by rw [← hsS.out]; exact sizeSp' okS3
   have hs1 : Hid (∀ u ∈ sS, u.oneCell' = true) := by rw [← hsS.out]; exact spC_one _
   have hsl : Hid (sS.length = (spC Go.Dr.zeroS).length) := by show _ = _; rw [← hsS.out, spC_length okS3, spC_length okZS]
   have hzl : Hid (zS.length = (spC Go.Dr.zeroS).length) := by show _ = _; rw [← hzS.out]

   have hac := Lib.hid (fun (K0 : Nat → Prop) (a' : Option Addr) (n' c' : Nat) (W : World) hT hM => accept_at (K := K0) hG'.out.a0 (m := 1) rfl ok0.out hg0.out (a := a') (n := n') (c := c') (w := W) hT hM)
   rw [hzS.out] at hac
   refine share (G := ∀ (q11 : Nat) (q12 : Nat) (awa : Option Addr) (cwa : Nat) (WZ : World), (Below v5.heap.size v5 WZ) → (Blk WZ q11 69 (wtC pq awa 1 cwa)) → (v5.heap.size ≤ q11) → (Blk WZ q12 64 (zS)) → (v5.heap.size ≤ q12) → (q11 ≠ q12) → (WM (fun b => b ≠ q11 ∧ b ≠ q12) WZ ⟨pq, [r0]⟩ awa 1 cwa) → (?GfinR7 : Nat → Nat → Option Addr → Nat → World → Prop) q11 q12 awa cwa WZ) ?hfinR7 ?kfinR7
   case' hfinR7 =>
    intro KfinR7
   case' hfinR7 =>
    refine share (G := ∀ (q11 : Nat) (q12 : Nat) (awa : Option Addr) (cwa : Nat) (WZ : World), (Below v5.heap.size v5 WZ) → (Blk WZ q11 69 (wtC pq awa 1 cwa)) → (v5.heap.size ≤ q11) → (Blk WZ q12 64 (spC Go.Dr.zeroS)) → (v5.heap.size ≤ q12) → (q11 ≠ q12) → (WM (fun b => b ≠ q11 ∧ b ≠ q12) WZ ⟨pq, [r0]⟩ awa 1 cwa) → (?Gs3_11_12_R7 : Nat → Nat → Option Addr → Nat → World → Prop) q11 q12 awa cwa WZ) ?hs3_11_12_R7 ?ks3_11_12_R7
   case' hs3_11_12_R7 => intro Ks3_11_12_R7
   case' hs3_11_12_R7 =>
    refine share (G := ∀ (q11 : Nat) (q12 : Nat) (awa : Option Addr) (cwa : Nat) (WZ : World), (Below v5.heap.size v5 WZ) → (Blk WZ q11 69 (wtC 0 none 0 0)) → (v5.heap.size ≤ q11) → (Blk WZ q12 64 (spC Go.Dr.zeroS)) → (v5.heap.size ≤ q12) → (q11 ≠ q12) → (WM (fun b => b ≠ q11 ∧ b ≠ q12) WZ ⟨pq, [r0]⟩ awa 1 cwa) → (?Gs2_11_12_R7 : Nat → Nat → Option Addr → Nat → World → Prop) q11 q12 awa cwa WZ) ?hs2_11_12_R7 ?ks2_11_12_R7
   case' hs2_11_12_R7 => intro Ks2_11_12_R7
   case' hs2_11_12_R7 =>
    refine share (G := ∀ (q11 : Nat) (awa : Option Addr) (cwa : Nat) (WZ : World), (Below v5.heap.size v5 WZ) → (Blk WZ q11 69 (wtC 0 none 0 0)) → (v5.heap.size ≤ q11) → (WM (fun b => b ≠ q11) WZ ⟨pq, [r0]⟩ awa 1 cwa) → (?Gs2_11_R7 : Nat → Option Addr → Nat → World → Prop) q11 awa cwa WZ) ?hs2_11_R7 ?ks2_11_R7
   case' hs2_11_R7 => intro Ks2_11_R7
   case' hs2_11_R7 =>
    refine share (G := ∀ (q12 : Nat) (awa : Option Addr) (cwa : Nat) (WZ : World), (Below v5.heap.size v5 WZ) → (Blk WZ q12 64 (spC Go.Dr.zeroS)) → (v5.heap.size ≤ q12) → (WM (fun b => b ≠ q12) WZ ⟨pq, [r0]⟩ awa 1 cwa) → (?Gs2_12_R7 : Nat → Option Addr → Nat → World → Prop) q12 awa cwa WZ) ?hs2_12_R7 ?ks2_12_R7
   case' hs2_12_R7 => intro Ks2_12_R7
   case' hs2_12_R7 =>
    refine share (G := ∀ (awa : Option Addr) (cwa : Nat) (WZ : World), (Below v5.heap.size v5 WZ) → (WM (fun _ => True) WZ ⟨pq, [r0]⟩ awa 1 cwa) → (?Gs2_R7 : Option Addr → Nat → World → Prop) awa cwa WZ) ?hs2_R7 ?ks2_R7
   case' hs2_R7 => intro Ks2_R7
   case' hs2_R7 =>
    refine share (G := ∀ (q11 : Nat) (q12 : Nat) (WZ : World), (Below v5.heap.size v5 WZ) → (Blk WZ q11 69 (wtC 0 none 0 0)) → (v5.heap.size ≤ q11) → (Blk WZ q12 64 (spC Go.Dr.zeroS)) → (v5.heap.size ≤ q12) → (q11 ≠ q12) → (?Gs1_11_12_R7 : Nat → Nat → World → Prop) q11 q12 WZ) ?hs1_11_12_R7 ?ks1_11_12_R7
   case' hs1_11_12_R7 => intro Ks1_11_12_R7
   case' hs1_11_12_R7 =>
    refine share (G := ∀ (q11 : Nat) (WZ : World), (Below v5.heap.size v5 WZ) → (Blk WZ q11 69 (wtC 0 none 0 0)) → (v5.heap.size ≤ q11) → (?Gs1_11_R7 : Nat → World → Prop) q11 WZ) ?hs1_11_R7 ?ks1_11_R7
   case' hs1_11_R7 => intro Ks1_11_R7
   case' hs1_11_R7 =>
    refine share (G := ∀ (q12 : Nat) (WZ : World), (Below v5.heap.size v5 WZ) → (Blk WZ q12 64 (spC Go.Dr.zeroS)) → (v5.heap.size ≤ q12) → (?Gs1_12_R7 : Nat → World → Prop) q12 WZ) ?hs1_12_R7 ?ks1_12_R7
   case' hs1_12_R7 => intro Ks1_12_R7
   case' hs1_12_R7 =>
    refine share (G := ∀ (WZ : World), (Below v5.heap.size v5 WZ) → (?Gs1_R7 : World → Prop) WZ) ?hs1_R7 ?ks1_R7
   case' hs1_R7 => intro Ks1_R7
   case' hs1_R7 =>
    refine share (G := ∀ (q11 : Nat) (q12 : Nat) (WZ : World), (Below v5.heap.size v5 WZ) → (Blk WZ q11 69 (wtC 0 none 0 0)) → (v5.heap.size ≤ q11) → (Blk WZ q12 64 (spC Go.Dr.zeroS)) → (v5.heap.size ≤ q12) → (q11 ≠ q12) → (?Gs0_11_12_R7 : Nat → Nat → World → Prop) q11 q12 WZ) ?hs0_11_12_R7 ?ks0_11_12_R7
   case' hs0_11_12_R7 => intro Ks0_11_12_R7
   case' hs0_11_12_R7 =>
    refine share (G := ∀ (q11 : Nat) (WZ : World), (Below v5.heap.size v5 WZ) → (Blk WZ q11 69 (wtC 0 none 0 0)) → (v5.heap.size ≤ q11) → (?Gs0_11_R7 : Nat → World → Prop) q11 WZ) ?hs0_11_R7 ?ks0_11_R7
   case' hs0_11_R7 => intro Ks0_11_R7
   case' hs0_11_R7 =>
    refine share (G := ∀ (q12 : Nat) (WZ : World), (Below v5.heap.size v5 WZ) → (Blk WZ q12 64 (spC Go.Dr.zeroS)) → (v5.heap.size ≤ q12) → (?Gs0_12_R7 : Nat → World → Prop) q12 WZ) ?hs0_12_R7 ?ks0_12_R7
   case' hs0_12_R7 => intro Ks0_12_R7
   case hs0_12_R7 =>
    refine wp_region_held_drew (S := fun wz => Below v5.heap.size v5 wz) (by kernel_rfl) ((Below.refl _ v5).drew) (fun hHeld => ?_)
    generalize v5.drew = WZ at *
    refine tQ 0 rfl hHeld ?_
    refine tQ 2 rfl hHeld ?_
    refine tX 3 rfl (fun wz hSw => And.intro ((hB1.out.below hSw hB1.out.lt).at_ (i := 0) (x := .int .i64 5) rfl) (And.intro ((hB1.out.below hSw hB1.out.lt).at_ (i := 1) (x := .slice la 0 lc) rfl) ((hB1.out.below hSw hB1.out.lt).at_ (i := 2) (x := .slice (some ⟨b1, p1, none⟩) 3 rc) rfl))) hHeld ?_
    refine tQ 4 rfl hHeld ?_
    refine tY 5 rfl b1 p1 (g0) (fun wz h => by have hh := (hD1.out.below h).qs.at_ (k := 0) (x := r0) rfl; rw [hg0.out] at hh; exact hh) Tryz.underlying62 hi0.out hHeld ?_
    refine Go.rd (rs := [1, 11, 12]) ?_
    refine tR rfl (fun K hK => ?_) (tR rfl (fun K hK => ?_) (tR rfl (fun K hK => ?_) Go.rn))
    case refine_1 =>
     go_simp
     go_at_call 41
     refine (gnew_any pq _).mono ?_
     rintro e wq ⟨rfl, hst⟩


     refine hK.out _ _ (hHeld.trans (hst.mono hHeld.size)) (fun hHeld2 => ?_)
     clear hK K
     try simp only [Act.put, sA, s0, s1]
     exact Ks1_R7  wq (hHeld2)
    case refine_2 =>
     go_simp
     refine hK.out _ _ (hHeld.alloc hHeld.size _) (fun hHeld2 => ?_)
     clear hK K
     try simp only [Act.put, sA, s0, s1]
     generalize hW2 : World.alloc WZ _ = W2
     rw [hW2] at hHeld2
     generalize hq : WZ.heap.size = q11
     have hBn : Blk W2 q11 69 (wtC 0 none 0 0) := by rw [← hW2, ← hq]; exact Blk.new _ _ _
     have hLn := hHeld.size
     rw [hq] at hLn
     clear hW2 hq
     exact Ks0_11_R7 q11 W2 (hHeld2) (hBn) (hLn)
    case refine_3 =>
     go_simp
     refine hK.out _ _ (hHeld.alloc hHeld.size _) (fun hHeld2 => ?_)
     clear hK K
     try simp only [Act.put, sA, s0, s1]
     generalize hW2 : World.alloc WZ _ = W2
     rw [hW2] at hHeld2
     generalize hq : WZ.heap.size = q12
     have hBn : Blk W2 q12 64 (spC Go.Dr.zeroS) := by rw [← hW2, ← hq]; exact Blk.new _ _ _
     have hLn := hHeld.size
     rw [hq] at hLn
     clear hW2 hq
     exact Ks0_12_R7 q12 W2 (hHeld2) (hBn) (hLn)
   case ks0_12_R7 =>
    intro q12 WZ hHeld hB12 hL12
    refine Go.rd (rs := [1, 11]) ?_
    refine tR rfl (fun K hK => ?_) (tR rfl (fun K hK => ?_) Go.rn)
    case refine_1 =>
     go_simp
     go_at_call 41
     refine (gnew_any pq _).mono ?_
     rintro e wq ⟨rfl, hst⟩


     refine hK.out _ _ (hHeld.trans (hst.mono hHeld.size)) (fun hHeld2 => ?_)
     clear hK K
     try simp only [Act.put, sA, s0, s1]
     exact Ks1_12_R7 q12 wq (hHeld2) (hB12.below hst hB12.lt) (hL12)
    case refine_2 =>
     go_simp
     refine hK.out _ _ (hHeld.alloc hHeld.size _) (fun hHeld2 => ?_)
     clear hK K
     try simp only [Act.put, sA, s0, s1]
     generalize hW2 : World.alloc WZ _ = W2
     rw [hW2] at hHeld2
     generalize hq : WZ.heap.size = q11
     have hBn : Blk W2 q11 69 (wtC 0 none 0 0) := by rw [← hW2, ← hq]; exact Blk.new _ _ _
     have hLn := hHeld.size
     rw [hq] at hLn
     have hB12' : Blk W2 q12 64 (spC Go.Dr.zeroS) := by rw [← hW2]; exact hB12.alloc _
     have hN12' := hB12.lt
     rw [hq] at hN12'
     clear hW2 hq
     exact Ks0_11_12_R7 q11 q12 W2 (hHeld2) (hBn) (hLn) (hB12') (hL12) ((by omega))
   case ks0_11_R7 =>
    intro q11 WZ hHeld hB11 hL11
    refine Go.rd (rs := [1, 12]) ?_
    refine tR rfl (fun K hK => ?_) (tR rfl (fun K hK => ?_) Go.rn)
    case refine_1 =>
     go_simp
     go_at_call 41
     refine (gnew_any pq _).mono ?_
     rintro e wq ⟨rfl, hst⟩


     refine hK.out _ _ (hHeld.trans (hst.mono hHeld.size)) (fun hHeld2 => ?_)
     clear hK K
     try simp only [Act.put, sA, s0, s1]
     exact Ks1_11_R7 q11 wq (hHeld2) (hB11.below hst hB11.lt) (hL11)
    case refine_2 =>
     go_simp
     refine hK.out _ _ (hHeld.alloc hHeld.size _) (fun hHeld2 => ?_)
     clear hK K
     try simp only [Act.put, sA, s0, s1]
     generalize hW2 : World.alloc WZ _ = W2
     rw [hW2] at hHeld2
     generalize hq : WZ.heap.size = q12
     have hBn : Blk W2 q12 64 (spC Go.Dr.zeroS) := by rw [← hW2, ← hq]; exact Blk.new _ _ _
     have hLn := hHeld.size
     rw [hq] at hLn
     have hB11' : Blk W2 q11 69 (wtC 0 none 0 0) := by rw [← hW2]; exact hB11.alloc _
     have hN11' := hB11.lt
     rw [hq] at hN11'
     clear hW2 hq
     exact Ks0_11_12_R7 q11 q12 W2 (hHeld2) (hB11') (hL11) (hBn) (hLn) ((by omega))
   case ks0_11_12_R7 =>
    intro q11 q12 WZ hHeld hB11 hL11 hB12 hL12 hN11_12
    refine tO 1 rfl (fun K hK => ?_)
    go_simp
    go_at_call 41
    refine (gnew_any pq _).mono ?_
    rintro e wq ⟨rfl, hst⟩


    refine hK.out _ _ (hHeld.trans (hst.mono hHeld.size)) (fun hHeld2 => ?_)
    clear hK K
    try simp only [Act.put, sA, s0, s1]
    exact Ks1_11_12_R7 q11 q12 wq (hHeld2) (hB11.below hst hB11.lt) (hL11) (hB12.below hst hB12.lt) (hL12) (hN11_12)
   case ks1_R7 =>
    intro  WZ hHeld
    refine Go.rd (rs := [6, 11, 12]) ?_
    refine tR rfl (fun K hK => ?_) (tR rfl (fun K hK => ?_) (tR rfl (fun K hK => ?_) Go.rn))
    case refine_1 =>
     go_simp
     go_at_call 45
     refine (hac.out (fun b => b < v5.heap.size) none 0 0 _ (HT'.out.below (hbw.out.trans (hHeld.mono hbw.out.size))) ⟨hpb.out, RS.nil0 _ _ _⟩).mono ?_
     rintro e wq ⟨awa, cwa, rfl, hWMx, hst⟩


     refine hK.out _ _ (hHeld.trans (hst.mono hHeld.size)) (fun hHeld2 => ?_)
     clear hK K
     refine tQ 7 rfl hHeld2 ?_
     refine tQ 8 rfl hHeld2 ?_
     refine tQ 9 rfl hHeld2 ?_
     refine tQ 10 rfl hHeld2 ?_
     exact Ks2_R7 awa cwa wq (hHeld2) (hWMx.imp (fun b hb hk => by first | trivial | (have h9 := hB11.lt; have h10 := hB12.lt; omega) | (have h9 := hB11.lt; omega) | (have h10 := hB12.lt; omega)))
    case refine_2 =>
     go_simp
     refine hK.out _ _ (hHeld.alloc hHeld.size _) (fun hHeld2 => ?_)
     clear hK K
     try simp only [Act.put, sA, s0, s1]
     generalize hW2 : World.alloc WZ _ = W2
     rw [hW2] at hHeld2
     generalize hq : WZ.heap.size = q11
     have hBn : Blk W2 q11 69 (wtC 0 none 0 0) := by rw [← hW2, ← hq]; exact Blk.new _ _ _
     have hLn := hHeld.size
     rw [hq] at hLn
     clear hW2 hq
     exact Ks1_11_R7 q11 W2 (hHeld2) (hBn) (hLn)
    case refine_3 =>
     go_simp
     refine hK.out _ _ (hHeld.alloc hHeld.size _) (fun hHeld2 => ?_)
     clear hK K
     try simp only [Act.put, sA, s0, s1]
     generalize hW2 : World.alloc WZ _ = W2
     rw [hW2] at hHeld2
     generalize hq : WZ.heap.size = q12
     have hBn : Blk W2 q12 64 (spC Go.Dr.zeroS) := by rw [← hW2, ← hq]; exact Blk.new _ _ _
     have hLn := hHeld.size
     rw [hq] at hLn
     clear hW2 hq
     exact Ks1_12_R7 q12 W2 (hHeld2) (hBn) (hLn)
   case ks1_12_R7 =>
    intro q12 WZ hHeld hB12 hL12
    refine Go.rd (rs := [6, 11]) ?_
    refine tR rfl (fun K hK => ?_) (tR rfl (fun K hK => ?_) Go.rn)
    case refine_1 =>
     go_simp
     go_at_call 45
     refine (hac.out (fun b => b < v5.heap.size) none 0 0 _ (HT'.out.below (hbw.out.trans (hHeld.mono hbw.out.size))) ⟨hpb.out, RS.nil0 _ _ _⟩).mono ?_
     rintro e wq ⟨awa, cwa, rfl, hWMx, hst⟩


     refine hK.out _ _ (hHeld.trans (hst.mono hHeld.size)) (fun hHeld2 => ?_)
     clear hK K
     refine tQ 7 rfl hHeld2 ?_
     refine tQ 8 rfl hHeld2 ?_
     refine tQ 9 rfl hHeld2 ?_
     refine tQ 10 rfl hHeld2 ?_
     exact Ks2_12_R7 q12 awa cwa wq (hHeld2) (hB12.below hst hB12.lt) (hL12) (hWMx.imp (fun b hb hk => by first | trivial | (have h9 := hB11.lt; have h10 := hB12.lt; omega) | (have h9 := hB11.lt; omega) | (have h10 := hB12.lt; omega)))
    case refine_2 =>
     go_simp
     refine hK.out _ _ (hHeld.alloc hHeld.size _) (fun hHeld2 => ?_)
     clear hK K
     try simp only [Act.put, sA, s0, s1]
     generalize hW2 : World.alloc WZ _ = W2
     rw [hW2] at hHeld2
     generalize hq : WZ.heap.size = q11
     have hBn : Blk W2 q11 69 (wtC 0 none 0 0) := by rw [← hW2, ← hq]; exact Blk.new _ _ _
     have hLn := hHeld.size
     rw [hq] at hLn
     have hB12' : Blk W2 q12 64 (spC Go.Dr.zeroS) := by rw [← hW2]; exact hB12.alloc _
     have hN12' := hB12.lt
     rw [hq] at hN12'
     clear hW2 hq
     exact Ks1_11_12_R7 q11 q12 W2 (hHeld2) (hBn) (hLn) (hB12') (hL12) ((by omega))
   case ks1_11_R7 =>
    intro q11 WZ hHeld hB11 hL11
    refine Go.rd (rs := [6, 12]) ?_
    refine tR rfl (fun K hK => ?_) (tR rfl (fun K hK => ?_) Go.rn)
    case refine_1 =>
     go_simp
     go_at_call 45
     refine (hac.out (fun b => b < v5.heap.size) none 0 0 _ (HT'.out.below (hbw.out.trans (hHeld.mono hbw.out.size))) ⟨hpb.out, RS.nil0 _ _ _⟩).mono ?_
     rintro e wq ⟨awa, cwa, rfl, hWMx, hst⟩


     refine hK.out _ _ (hHeld.trans (hst.mono hHeld.size)) (fun hHeld2 => ?_)
     clear hK K
     refine tQ 7 rfl hHeld2 ?_
     refine tQ 8 rfl hHeld2 ?_
     refine tQ 9 rfl hHeld2 ?_
     refine tQ 10 rfl hHeld2 ?_
     exact Ks2_11_R7 q11 awa cwa wq (hHeld2) (hB11.below hst hB11.lt) (hL11) (hWMx.imp (fun b hb hk => by first | trivial | (have h9 := hB11.lt; have h10 := hB12.lt; omega) | (have h9 := hB11.lt; omega) | (have h10 := hB12.lt; omega)))
    case refine_2 =>
     go_simp
     refine hK.out _ _ (hHeld.alloc hHeld.size _) (fun hHeld2 => ?_)
     clear hK K
     try simp only [Act.put, sA, s0, s1]
     generalize hW2 : World.alloc WZ _ = W2
     rw [hW2] at hHeld2
     generalize hq : WZ.heap.size = q12
     have hBn : Blk W2 q12 64 (spC Go.Dr.zeroS) := by rw [← hW2, ← hq]; exact Blk.new _ _ _
     have hLn := hHeld.size
     rw [hq] at hLn
     have hB11' : Blk W2 q11 69 (wtC 0 none 0 0) := by rw [← hW2]; exact hB11.alloc _
     have hN11' := hB11.lt
     rw [hq] at hN11'
     clear hW2 hq
     exact Ks1_11_12_R7 q11 q12 W2 (hHeld2) (hB11') (hL11) (hBn) (hLn) ((by omega))
   case ks1_11_12_R7 =>
    intro q11 q12 WZ hHeld hB11 hL11 hB12 hL12 hN11_12
    refine tO 6 rfl (fun K hK => ?_)
    go_simp
    go_at_call 45
    refine (hac.out (fun b => b < v5.heap.size) none 0 0 _ (HT'.out.below (hbw.out.trans (hHeld.mono hbw.out.size))) ⟨hpb.out, RS.nil0 _ _ _⟩).mono ?_
    rintro e wq ⟨awa, cwa, rfl, hWMx, hst⟩


    refine hK.out _ _ (hHeld.trans (hst.mono hHeld.size)) (fun hHeld2 => ?_)
    clear hK K
    refine tQ 7 rfl hHeld2 ?_
    refine tQ 8 rfl hHeld2 ?_
    refine tQ 9 rfl hHeld2 ?_
    refine tQ 10 rfl hHeld2 ?_
    exact Ks2_11_12_R7 q11 q12 awa cwa wq (hHeld2) (hB11.below hst hB11.lt) (hL11) (hB12.below hst hB12.lt) (hL12) (hN11_12) (hWMx.imp (fun b hb hk => by first | trivial | (have h9 := hB11.lt; have h10 := hB12.lt; omega) | (have h9 := hB11.lt; omega) | (have h10 := hB12.lt; omega)))
   case ks2_R7 =>
    intro awa cwa WZ hHeld hxwa
    refine Go.rd (rs := [11, 12]) ?_
    refine tR rfl (fun K hK => ?_) (tR rfl (fun K hK => ?_) Go.rn)
    case refine_1 =>
     go_simp
     refine hK.out _ _ (hHeld.alloc hHeld.size _) (fun hHeld2 => ?_)
     clear hK K
     try simp only [Act.put, sA, s0, s1]
     generalize hW2 : World.alloc WZ _ = W2
     rw [hW2] at hHeld2
     generalize hq : WZ.heap.size = q11
     have hBn : Blk W2 q11 69 (wtC 0 none 0 0) := by rw [← hW2, ← hq]; exact Blk.new _ _ _
     have hLn := hHeld.size
     rw [hq] at hLn
     have hxwa' : WM (fun b => b ≠ q11) W2 ⟨pq, [r0]⟩ awa 1 cwa := by rw [← hW2]; exact ((hxwa.imp (K' := (fun b => b ≠ q11)) (fun b hb hk => by first | omega | (simp only at hk ⊢; omega) | (show _ ≠ _; omega) | (show _ ∧ _; omega)))).below ((Below.refl _ WZ).alloc (Nat.le_refl _) _)
     clear hW2 hq
     exact Ks2_11_R7 q11 awa cwa W2 (hHeld2) (hBn) (hLn) (hxwa')
    case refine_2 =>
     go_simp
     refine hK.out _ _ (hHeld.alloc hHeld.size _) (fun hHeld2 => ?_)
     clear hK K
     try simp only [Act.put, sA, s0, s1]
     generalize hW2 : World.alloc WZ _ = W2
     rw [hW2] at hHeld2
     generalize hq : WZ.heap.size = q12
     have hBn : Blk W2 q12 64 (spC Go.Dr.zeroS) := by rw [← hW2, ← hq]; exact Blk.new _ _ _
     have hLn := hHeld.size
     rw [hq] at hLn
     have hxwa' : WM (fun b => b ≠ q12) W2 ⟨pq, [r0]⟩ awa 1 cwa := by rw [← hW2]; exact ((hxwa.imp (K' := (fun b => b ≠ q12)) (fun b hb hk => by first | omega | (simp only at hk ⊢; omega) | (show _ ≠ _; omega) | (show _ ∧ _; omega)))).below ((Below.refl _ WZ).alloc (Nat.le_refl _) _)
     clear hW2 hq
     exact Ks2_12_R7 q12 awa cwa W2 (hHeld2) (hBn) (hLn) (hxwa')
   case ks2_12_R7 =>
    intro q12 awa cwa WZ hHeld hB12 hL12 hxwa
    refine tO 11 rfl (fun K hK => ?_)
    go_simp
    refine hK.out _ _ (hHeld.alloc hHeld.size _) (fun hHeld2 => ?_)
    clear hK K
    try simp only [Act.put, sA, s0, s1]
    generalize hW2 : World.alloc WZ _ = W2
    rw [hW2] at hHeld2
    generalize hq : WZ.heap.size = q11
    have hBn : Blk W2 q11 69 (wtC 0 none 0 0) := by rw [← hW2, ← hq]; exact Blk.new _ _ _
    have hLn := hHeld.size
    rw [hq] at hLn
    have hB12' : Blk W2 q12 64 (spC Go.Dr.zeroS) := by rw [← hW2]; exact hB12.alloc _
    have hN12' := hB12.lt
    rw [hq] at hN12'
    have hxwa' : WM (fun b => b ≠ q11 ∧ b ≠ q12) W2 ⟨pq, [r0]⟩ awa 1 cwa := by rw [← hW2]; exact ((hxwa.imp (K' := (fun b => b ≠ q11 ∧ b ≠ q12)) (fun b hb hk => by first | omega | (simp only at hk ⊢; omega) | (show _ ≠ _; omega) | (show _ ∧ _; omega)))).below ((Below.refl _ WZ).alloc (Nat.le_refl _) _)
    clear hW2 hq
    exact Ks2_11_12_R7 q11 q12 awa cwa W2 (hHeld2) (hBn) (hLn) (hB12') (hL12) ((by omega)) (hxwa')
   case ks2_11_R7 =>
    intro q11 awa cwa WZ hHeld hB11 hL11 hxwa
    refine tO 12 rfl (fun K hK => ?_)
    go_simp
    refine hK.out _ _ (hHeld.alloc hHeld.size _) (fun hHeld2 => ?_)
    clear hK K
    try simp only [Act.put, sA, s0, s1]
    generalize hW2 : World.alloc WZ _ = W2
    rw [hW2] at hHeld2
    generalize hq : WZ.heap.size = q12
    have hBn : Blk W2 q12 64 (spC Go.Dr.zeroS) := by rw [← hW2, ← hq]; exact Blk.new _ _ _
    have hLn := hHeld.size
    rw [hq] at hLn
    have hB11' : Blk W2 q11 69 (wtC 0 none 0 0) := by rw [← hW2]; exact hB11.alloc _
    have hN11' := hB11.lt
    rw [hq] at hN11'
    have hxwa' : WM (fun b => b ≠ q11 ∧ b ≠ q12) W2 ⟨pq, [r0]⟩ awa 1 cwa := by rw [← hW2]; exact ((hxwa.imp (K' := (fun b => b ≠ q11 ∧ b ≠ q12)) (fun b hb hk => by first | omega | (simp only at hk ⊢; omega) | (show _ ≠ _; omega) | (show _ ∧ _; omega)))).below ((Below.refl _ WZ).alloc (Nat.le_refl _) _)
    clear hW2 hq
    exact Ks2_11_12_R7 q11 q12 awa cwa W2 (hHeld2) (hB11') (hL11) (hBn) (hLn) ((by omega)) (hxwa')
   case ks2_11_12_R7 =>
    intro q11 q12 awa cwa WZ hHeld hB11 hL11 hB12 hL12 hN11_12 hxwa
    refine Go.rd (rs := [13]) ?_
    refine AllReadyH.cons (o := ⟨none, .store 69 (.tmp 6) (.tmp 69), 0, "law.go:43", #[⟨11, .data⟩, ⟨8, .data⟩, ⟨6, .chain⟩, ⟨0, .phase⟩, ⟨1, .phase⟩, ⟨2, .phase⟩, ⟨3, .phase⟩, ⟨4, .phase⟩, ⟨5, .phase⟩, ⟨6, .phase⟩, ⟨7, .phase⟩, ⟨8, .phase⟩, ⟨9, .textOnly .lateStores⟩, ⟨10, .textOnly .lateStores⟩, ⟨11, .phase⟩, ⟨12, .phase⟩], none⟩) rfl (fun K hK => ?_) AllReadyH.nil
    obtain ⟨W3, hQ⟩ := put_row (ty := 69) hB11 (x := wtC pq awa 1 cwa) (rfl) (sizeWt) (wt_one _ _ _ _)
    have hHeld2 := below_grown hHeld hQ.grown hHeld.size hL11
    rw [if_pos (by rfl)]
    refine wp_store_mid 69 _ _ rfl q11 0 (wtC pq awa 1 cwa : List Value).toArray (by rfl) (by rfl) hQ.there hQ.info (by simpa using hQ.one) ?_
    generalize hWq : World.setCells _ _ _ _ = Wa
    obtain rfl : W3 = Wa := by rw [← hWq]; exact hQ.eq
    clear hWq
    refine hK.out _ _ hHeld2 (fun _ => ?_)
    clear hK K
    try simp only [Act.put]
    exact Ks3_11_12_R7 q11 q12 awa cwa W3 (hHeld2) (hQ.blk) (hL11) (hB12.grown hQ.grown (fun e => by injection e with e; exact hN11_12 e.symm)) (hL12) (hN11_12) (hxwa.keep (Keeps.grown hQ.grown (fun b hb => by omega)))
   case ks3_11_12_R7 =>
    intro q11 q12 awa cwa WZ hHeld hB11 hL11 hB12 hL12 hN11_12 hxwa
    refine Go.rd (rs := [14]) ?_
    refine AllReadyH.cons (o := ⟨none, .store 64 (.tmp 7) (.tmp 70), 0, "law.go:43", #[⟨12, .data⟩, ⟨9, .data⟩, ⟨13, .chain⟩, ⟨0, .phase⟩, ⟨1, .phase⟩, ⟨2, .phase⟩, ⟨3, .phase⟩, ⟨4, .phase⟩, ⟨5, .phase⟩, ⟨6, .phase⟩, ⟨7, .phase⟩, ⟨8, .phase⟩, ⟨9, .phase⟩, ⟨10, .textOnly .lateStores⟩, ⟨11, .phase⟩, ⟨12, .phase⟩, ⟨13, .phase⟩], none⟩) rfl (fun K hK => ?_) AllReadyH.nil
    obtain ⟨W3, hQ⟩ := put_row (ty := 64) hB12 (x := zS) (hzl.out) (hzo.out) (hz1.out)
    have hHeld2 := below_grown hHeld hQ.grown hHeld.size hL12
    rw [if_pos (by rfl)]
    refine wp_store_mid 64 _ _ rfl q12 0 (zS : List Value).toArray (by rfl) (by rfl) hQ.there hQ.info (by simpa using hQ.one) ?_
    generalize hWq : World.setCells _ _ _ _ = Wa
    obtain rfl : W3 = Wa := by rw [← hWq]; exact hQ.eq
    clear hWq
    refine hK.out _ _ hHeld2 (fun _ => ?_)
    clear hK K
    try simp only [Act.put]
    refine tQ 15 rfl hHeld2 ?_
    refine wpAnyH_done (by kernel_rfl) ?_ _
    exact KfinR7 q11 q12 awa cwa W3 (hHeld2) (hB11.grown hQ.grown (fun e => by injection e with e; exact hN11_12 e)) (hL11) (hQ.blk) (hL12) (hN11_12) (hxwa.keep (Keeps.grown hQ.grown (fun b hb => by omega)))
   case kfinR7 =>
    intro q7a q7b awa cwa v7 hst hBa _ hBb _ _ hWx
    replace hB1 := Lib.hid (hB1.out.below hst hB1.out.lt)
    replace hD1 := Lib.hid (hD1.out.below hst)
    replace hD4 := Lib.hid (hD4.out.below hst)
    replace hB4 := Lib.hid (hB4.out.below hst hB4.out.lt)
    replace hB5 := Lib.hid (hB5.out.below hst hB5.out.lt)
    replace hD5 := Lib.hid (hD5.out.below hst)
    replace hbw := Lib.hid (hbw.out.trans (hst.mono hbw.out.size))
    have hba := Lib.hid hBa
    have wa : Hid (WM (fun _ => True) v7 ⟨pq, [r0]⟩ awa 1 cwa) := hWx.imp (fun _ _ _ => trivial)
    clear hst hBa hBb hWx hac
    go_upto_region 8 with fail
    have hac := Lib.hid (fun (K0 : Nat → Prop) (a' : Option Addr) (n' c' : Nat) (W : World) hT hM => accept_at (K := K0) hG'.out.a1 (m := 2) rfl ok2.out hg2.out (a := a') (n := n') (c := c') (w := W) hT hM)
    rw [hzS.out] at hac
    refine share (G := ∀ (q10 : Nat) (q11 : Nat) (awb : Option Addr) (cwb : Nat) (WZ : World), (Below v7.heap.size v7 WZ) → (Blk WZ q10 69 (wtC pq awb 2 cwb)) → (v7.heap.size ≤ q10) → (Blk WZ q11 64 (zS)) → (v7.heap.size ≤ q11) → (q10 ≠ q11) → (WM (fun b => b ≠ q10 ∧ b ≠ q11) WZ ⟨pq, [r0, r2]⟩ awb 2 cwb) → (?GfinR8 : Nat → Nat → Option Addr → Nat → World → Prop) q10 q11 awb cwb WZ) ?hfinR8 ?kfinR8
    case' hfinR8 =>
     intro KfinR8
    case' hfinR8 =>
     refine share (G := ∀ (q10 : Nat) (q11 : Nat) (awb : Option Addr) (cwb : Nat) (WZ : World), (Below v7.heap.size v7 WZ) → (Blk WZ q10 69 (wtC pq awb 2 cwb)) → (v7.heap.size ≤ q10) → (Blk WZ q11 64 (spC Go.Dr.zeroS)) → (v7.heap.size ≤ q11) → (q10 ≠ q11) → (WM (fun b => b ≠ q10 ∧ b ≠ q11) WZ ⟨pq, [r0, r2]⟩ awb 2 cwb) → (?Gs2_10_11_R8 : Nat → Nat → Option Addr → Nat → World → Prop) q10 q11 awb cwb WZ) ?hs2_10_11_R8 ?ks2_10_11_R8
    case' hs2_10_11_R8 => intro Ks2_10_11_R8
    case' hs2_10_11_R8 =>
     refine share (G := ∀ (q10 : Nat) (q11 : Nat) (awb : Option Addr) (cwb : Nat) (WZ : World), (Below v7.heap.size v7 WZ) → (Blk WZ q10 69 (wtC 0 none 0 0)) → (v7.heap.size ≤ q10) → (Blk WZ q11 64 (spC Go.Dr.zeroS)) → (v7.heap.size ≤ q11) → (q10 ≠ q11) → (WM (fun b => b ≠ q10 ∧ b ≠ q11) WZ ⟨pq, [r0, r2]⟩ awb 2 cwb) → (?Gs1_10_11_R8 : Nat → Nat → Option Addr → Nat → World → Prop) q10 q11 awb cwb WZ) ?hs1_10_11_R8 ?ks1_10_11_R8
    case' hs1_10_11_R8 => intro Ks1_10_11_R8
    case' hs1_10_11_R8 =>
     refine share (G := ∀ (q10 : Nat) (awb : Option Addr) (cwb : Nat) (WZ : World), (Below v7.heap.size v7 WZ) → (Blk WZ q10 69 (wtC 0 none 0 0)) → (v7.heap.size ≤ q10) → (WM (fun b => b ≠ q10) WZ ⟨pq, [r0, r2]⟩ awb 2 cwb) → (?Gs1_10_R8 : Nat → Option Addr → Nat → World → Prop) q10 awb cwb WZ) ?hs1_10_R8 ?ks1_10_R8
    case' hs1_10_R8 => intro Ks1_10_R8
    case' hs1_10_R8 =>
     refine share (G := ∀ (q11 : Nat) (awb : Option Addr) (cwb : Nat) (WZ : World), (Below v7.heap.size v7 WZ) → (Blk WZ q11 64 (spC Go.Dr.zeroS)) → (v7.heap.size ≤ q11) → (WM (fun b => b ≠ q11) WZ ⟨pq, [r0, r2]⟩ awb 2 cwb) → (?Gs1_11_R8 : Nat → Option Addr → Nat → World → Prop) q11 awb cwb WZ) ?hs1_11_R8 ?ks1_11_R8
    case' hs1_11_R8 => intro Ks1_11_R8
    case' hs1_11_R8 =>
     refine share (G := ∀ (awb : Option Addr) (cwb : Nat) (WZ : World), (Below v7.heap.size v7 WZ) → (WM (fun _ => True) WZ ⟨pq, [r0, r2]⟩ awb 2 cwb) → (?Gs1_R8 : Option Addr → Nat → World → Prop) awb cwb WZ) ?hs1_R8 ?ks1_R8
    case' hs1_R8 => intro Ks1_R8
    case' hs1_R8 =>
     refine share (G := ∀ (q10 : Nat) (q11 : Nat) (WZ : World), (Below v7.heap.size v7 WZ) → (Blk WZ q10 69 (wtC 0 none 0 0)) → (v7.heap.size ≤ q10) → (Blk WZ q11 64 (spC Go.Dr.zeroS)) → (v7.heap.size ≤ q11) → (q10 ≠ q11) → (?Gs0_10_11_R8 : Nat → Nat → World → Prop) q10 q11 WZ) ?hs0_10_11_R8 ?ks0_10_11_R8
    case' hs0_10_11_R8 => intro Ks0_10_11_R8
    case' hs0_10_11_R8 =>
     refine share (G := ∀ (q10 : Nat) (WZ : World), (Below v7.heap.size v7 WZ) → (Blk WZ q10 69 (wtC 0 none 0 0)) → (v7.heap.size ≤ q10) → (?Gs0_10_R8 : Nat → World → Prop) q10 WZ) ?hs0_10_R8 ?ks0_10_R8
    case' hs0_10_R8 => intro Ks0_10_R8
    case' hs0_10_R8 =>
     refine share (G := ∀ (q11 : Nat) (WZ : World), (Below v7.heap.size v7 WZ) → (Blk WZ q11 64 (spC Go.Dr.zeroS)) → (v7.heap.size ≤ q11) → (?Gs0_11_R8 : Nat → World → Prop) q11 WZ) ?hs0_11_R8 ?ks0_11_R8
    case' hs0_11_R8 => intro Ks0_11_R8
    case hs0_11_R8 =>
     refine wp_region_held_drew (S := fun wz => Below v7.heap.size v7 wz) (by kernel_rfl) ((Below.refl _ v7).drew) (fun hHeld => ?_)
     generalize v7.drew = WZ at *
     refine tX 0 rfl (fun wz hSw => And.intro ((hba.out.below hSw hba.out.lt).at_ (i := 0) (x := .int .i64 pq) rfl) ((hba.out.below hSw hba.out.lt).at_ (i := 1) (x := .slice awa 1 cwa) rfl)) hHeld ?_
     refine tQ 1 rfl hHeld ?_
     refine tX 2 rfl (fun wz hSw => And.intro ((hB1.out.below hSw hB1.out.lt).at_ (i := 0) (x := .int .i64 5) rfl) (And.intro ((hB1.out.below hSw hB1.out.lt).at_ (i := 1) (x := .slice la 0 lc) rfl) ((hB1.out.below hSw hB1.out.lt).at_ (i := 2) (x := .slice (some ⟨b1, p1, none⟩) 3 rc) rfl))) hHeld ?_
     refine tQ 3 rfl hHeld ?_
     refine tY 4 rfl b1 (p1 + 134) (g2) (fun wz h => by have hh := (hD1.out.below h).qs.at_ (k := 2) (x := r2) rfl; rw [hg2.out] at hh; exact hh) Tryz.underlying62 hi2.out hHeld ?_
     refine Go.rd (rs := [5, 10, 11]) ?_
     refine tR rfl (fun K hK => ?_) (tR rfl (fun K hK => ?_) (tR rfl (fun K hK => ?_) Go.rn))
     case refine_1 =>
      go_simp
      go_at_call 45
      refine (hac.out (fun b => b < v7.heap.size) awa 1 cwa _ (HT'.out.below (hbw.out.trans (hHeld.mono hbw.out.size))) ((wa.out.imp (K' := fun b => b < v7.heap.size) (fun b hb _ => hb)).below hHeld)).mono ?_
      rintro e wq ⟨awb, cwb, rfl, hWMx, hst⟩


      refine hK.out _ _ (hHeld.trans (hst.mono hHeld.size)) (fun hHeld2 => ?_)
      clear hK K
      refine tQ 6 rfl hHeld2 ?_
      refine tQ 7 rfl hHeld2 ?_
      refine tQ 8 rfl hHeld2 ?_
      refine tQ 9 rfl hHeld2 ?_
      exact Ks1_R8 awb cwb wq (hHeld2) (hWMx.imp (fun b hb hk => by first | trivial | (have h9 := hB10.lt; have h10 := hB11.lt; omega) | (have h9 := hB10.lt; omega) | (have h10 := hB11.lt; omega)))
     case refine_2 =>
      go_simp
      refine hK.out _ _ (hHeld.alloc hHeld.size _) (fun hHeld2 => ?_)
      clear hK K
      try simp only [Act.put, sA, s0, s1]
      generalize hW2 : World.alloc WZ _ = W2
      rw [hW2] at hHeld2
      generalize hq : WZ.heap.size = q10
      have hBn : Blk W2 q10 69 (wtC 0 none 0 0) := by rw [← hW2, ← hq]; exact Blk.new _ _ _
      have hLn := hHeld.size
      rw [hq] at hLn
      clear hW2 hq
      exact Ks0_10_R8 q10 W2 (hHeld2) (hBn) (hLn)
     case refine_3 =>
      go_simp
      refine hK.out _ _ (hHeld.alloc hHeld.size _) (fun hHeld2 => ?_)
      clear hK K
      try simp only [Act.put, sA, s0, s1]
      generalize hW2 : World.alloc WZ _ = W2
      rw [hW2] at hHeld2
      generalize hq : WZ.heap.size = q11
      have hBn : Blk W2 q11 64 (spC Go.Dr.zeroS) := by rw [← hW2, ← hq]; exact Blk.new _ _ _
      have hLn := hHeld.size
      rw [hq] at hLn
      clear hW2 hq
      exact Ks0_11_R8 q11 W2 (hHeld2) (hBn) (hLn)
    case ks0_11_R8 =>
     intro q11 WZ hHeld hB11 hL11
     refine Go.rd (rs := [5, 10]) ?_
     refine tR rfl (fun K hK => ?_) (tR rfl (fun K hK => ?_) Go.rn)
     case refine_1 =>
      go_simp
      go_at_call 45
      refine (hac.out (fun b => b < v7.heap.size) awa 1 cwa _ (HT'.out.below (hbw.out.trans (hHeld.mono hbw.out.size))) ((wa.out.imp (K' := fun b => b < v7.heap.size) (fun b hb _ => hb)).below hHeld)).mono ?_
      rintro e wq ⟨awb, cwb, rfl, hWMx, hst⟩


      refine hK.out _ _ (hHeld.trans (hst.mono hHeld.size)) (fun hHeld2 => ?_)
      clear hK K
      refine tQ 6 rfl hHeld2 ?_
      refine tQ 7 rfl hHeld2 ?_
      refine tQ 8 rfl hHeld2 ?_
      refine tQ 9 rfl hHeld2 ?_
      exact Ks1_11_R8 q11 awb cwb wq (hHeld2) (hB11.below hst hB11.lt) (hL11) (hWMx.imp (fun b hb hk => by first | trivial | (have h9 := hB10.lt; have h10 := hB11.lt; omega) | (have h9 := hB10.lt; omega) | (have h10 := hB11.lt; omega)))
     case refine_2 =>
      go_simp
      refine hK.out _ _ (hHeld.alloc hHeld.size _) (fun hHeld2 => ?_)
      clear hK K
      try simp only [Act.put, sA, s0, s1]
      generalize hW2 : World.alloc WZ _ = W2
      rw [hW2] at hHeld2
      generalize hq : WZ.heap.size = q10
      have hBn : Blk W2 q10 69 (wtC 0 none 0 0) := by rw [← hW2, ← hq]; exact Blk.new _ _ _
      have hLn := hHeld.size
      rw [hq] at hLn
      have hB11' : Blk W2 q11 64 (spC Go.Dr.zeroS) := by rw [← hW2]; exact hB11.alloc _
      have hN11' := hB11.lt
      rw [hq] at hN11'
      clear hW2 hq
      exact Ks0_10_11_R8 q10 q11 W2 (hHeld2) (hBn) (hLn) (hB11') (hL11) ((by omega))
    case ks0_10_R8 =>
     intro q10 WZ hHeld hB10 hL10
     refine Go.rd (rs := [5, 11]) ?_
     refine tR rfl (fun K hK => ?_) (tR rfl (fun K hK => ?_) Go.rn)
     case refine_1 =>
      go_simp
      go_at_call 45
      refine (hac.out (fun b => b < v7.heap.size) awa 1 cwa _ (HT'.out.below (hbw.out.trans (hHeld.mono hbw.out.size))) ((wa.out.imp (K' := fun b => b < v7.heap.size) (fun b hb _ => hb)).below hHeld)).mono ?_
      rintro e wq ⟨awb, cwb, rfl, hWMx, hst⟩


      refine hK.out _ _ (hHeld.trans (hst.mono hHeld.size)) (fun hHeld2 => ?_)
      clear hK K
      refine tQ 6 rfl hHeld2 ?_
      refine tQ 7 rfl hHeld2 ?_
      refine tQ 8 rfl hHeld2 ?_
      refine tQ 9 rfl hHeld2 ?_
      exact Ks1_10_R8 q10 awb cwb wq (hHeld2) (hB10.below hst hB10.lt) (hL10) (hWMx.imp (fun b hb hk => by first | trivial | (have h9 := hB10.lt; have h10 := hB11.lt; omega) | (have h9 := hB10.lt; omega) | (have h10 := hB11.lt; omega)))
     case refine_2 =>
      go_simp
      refine hK.out _ _ (hHeld.alloc hHeld.size _) (fun hHeld2 => ?_)
      clear hK K
      try simp only [Act.put, sA, s0, s1]
      generalize hW2 : World.alloc WZ _ = W2
      rw [hW2] at hHeld2
      generalize hq : WZ.heap.size = q11
      have hBn : Blk W2 q11 64 (spC Go.Dr.zeroS) := by rw [← hW2, ← hq]; exact Blk.new _ _ _
      have hLn := hHeld.size
      rw [hq] at hLn
      have hB10' : Blk W2 q10 69 (wtC 0 none 0 0) := by rw [← hW2]; exact hB10.alloc _
      have hN10' := hB10.lt
      rw [hq] at hN10'
      clear hW2 hq
      exact Ks0_10_11_R8 q10 q11 W2 (hHeld2) (hB10') (hL10) (hBn) (hLn) ((by omega))
    case ks0_10_11_R8 =>
     intro q10 q11 WZ hHeld hB10 hL10 hB11 hL11 hN10_11
     refine tO 5 rfl (fun K hK => ?_)
     go_simp
     go_at_call 45
     refine (hac.out (fun b => b < v7.heap.size) awa 1 cwa _ (HT'.out.below (hbw.out.trans (hHeld.mono hbw.out.size))) ((wa.out.imp (K' := fun b => b < v7.heap.size) (fun b hb _ => hb)).below hHeld)).mono ?_
     rintro e wq ⟨awb, cwb, rfl, hWMx, hst⟩


     refine hK.out _ _ (hHeld.trans (hst.mono hHeld.size)) (fun hHeld2 => ?_)
     clear hK K
     refine tQ 6 rfl hHeld2 ?_
     refine tQ 7 rfl hHeld2 ?_
     refine tQ 8 rfl hHeld2 ?_
     refine tQ 9 rfl hHeld2 ?_
     exact Ks1_10_11_R8 q10 q11 awb cwb wq (hHeld2) (hB10.below hst hB10.lt) (hL10) (hB11.below hst hB11.lt) (hL11) (hN10_11) (hWMx.imp (fun b hb hk => by first | trivial | (have h9 := hB10.lt; have h10 := hB11.lt; omega) | (have h9 := hB10.lt; omega) | (have h10 := hB11.lt; omega)))
    case ks1_R8 =>
     intro awb cwb WZ hHeld hxwb
     refine Go.rd (rs := [10, 11]) ?_
     refine tR rfl (fun K hK => ?_) (tR rfl (fun K hK => ?_) Go.rn)
     case refine_1 =>
      go_simp
      refine hK.out _ _ (hHeld.alloc hHeld.size _) (fun hHeld2 => ?_)
      clear hK K
      try simp only [Act.put, sA, s0, s1]
      generalize hW2 : World.alloc WZ _ = W2
      rw [hW2] at hHeld2
      generalize hq : WZ.heap.size = q10
      have hBn : Blk W2 q10 69 (wtC 0 none 0 0) := by rw [← hW2, ← hq]; exact Blk.new _ _ _
      have hLn := hHeld.size
      rw [hq] at hLn
      have hxwb' : WM (fun b => b ≠ q10) W2 ⟨pq, [r0, r2]⟩ awb 2 cwb := by rw [← hW2]; exact ((hxwb.imp (K' := (fun b => b ≠ q10)) (fun b hb hk => by first | omega | (simp only at hk ⊢; omega) | (show _ ≠ _; omega) | (show _ ∧ _; omega)))).below ((Below.refl _ WZ).alloc (Nat.le_refl _) _)
      clear hW2 hq
      exact Ks1_10_R8 q10 awb cwb W2 (hHeld2) (hBn) (hLn) (hxwb')
     case refine_2 =>
      go_simp
      refine hK.out _ _ (hHeld.alloc hHeld.size _) (fun hHeld2 => ?_)
      clear hK K
      try simp only [Act.put, sA, s0, s1]
      generalize hW2 : World.alloc WZ _ = W2
      rw [hW2] at hHeld2
      generalize hq : WZ.heap.size = q11
      have hBn : Blk W2 q11 64 (spC Go.Dr.zeroS) := by rw [← hW2, ← hq]; exact Blk.new _ _ _
      have hLn := hHeld.size
      rw [hq] at hLn
      have hxwb' : WM (fun b => b ≠ q11) W2 ⟨pq, [r0, r2]⟩ awb 2 cwb := by rw [← hW2]; exact ((hxwb.imp (K' := (fun b => b ≠ q11)) (fun b hb hk => by first | omega | (simp only at hk ⊢; omega) | (show _ ≠ _; omega) | (show _ ∧ _; omega)))).below ((Below.refl _ WZ).alloc (Nat.le_refl _) _)
      clear hW2 hq
      exact Ks1_11_R8 q11 awb cwb W2 (hHeld2) (hBn) (hLn) (hxwb')
    case ks1_11_R8 =>
     intro q11 awb cwb WZ hHeld hB11 hL11 hxwb
     refine tO 10 rfl (fun K hK => ?_)
     go_simp
     refine hK.out _ _ (hHeld.alloc hHeld.size _) (fun hHeld2 => ?_)
     clear hK K
     try simp only [Act.put, sA, s0, s1]
     generalize hW2 : World.alloc WZ _ = W2
     rw [hW2] at hHeld2
     generalize hq : WZ.heap.size = q10
     have hBn : Blk W2 q10 69 (wtC 0 none 0 0) := by rw [← hW2, ← hq]; exact Blk.new _ _ _
     have hLn := hHeld.size
     rw [hq] at hLn
     have hB11' : Blk W2 q11 64 (spC Go.Dr.zeroS) := by rw [← hW2]; exact hB11.alloc _
     have hN11' := hB11.lt
     rw [hq] at hN11'
     have hxwb' : WM (fun b => b ≠ q10 ∧ b ≠ q11) W2 ⟨pq, [r0, r2]⟩ awb 2 cwb := by rw [← hW2]; exact ((hxwb.imp (K' := (fun b => b ≠ q10 ∧ b ≠ q11)) (fun b hb hk => by first | omega | (simp only at hk ⊢; omega) | (show _ ≠ _; omega) | (show _ ∧ _; omega)))).below ((Below.refl _ WZ).alloc (Nat.le_refl _) _)
     clear hW2 hq
     exact Ks1_10_11_R8 q10 q11 awb cwb W2 (hHeld2) (hBn) (hLn) (hB11') (hL11) ((by omega)) (hxwb')
    case ks1_10_R8 =>
     intro q10 awb cwb WZ hHeld hB10 hL10 hxwb
     refine tO 11 rfl (fun K hK => ?_)
     go_simp
     refine hK.out _ _ (hHeld.alloc hHeld.size _) (fun hHeld2 => ?_)
     clear hK K
     try simp only [Act.put, sA, s0, s1]
     generalize hW2 : World.alloc WZ _ = W2
     rw [hW2] at hHeld2
     generalize hq : WZ.heap.size = q11
     have hBn : Blk W2 q11 64 (spC Go.Dr.zeroS) := by rw [← hW2, ← hq]; exact Blk.new _ _ _
     have hLn := hHeld.size
     rw [hq] at hLn
     have hB10' : Blk W2 q10 69 (wtC 0 none 0 0) := by rw [← hW2]; exact hB10.alloc _
     have hN10' := hB10.lt
     rw [hq] at hN10'
     have hxwb' : WM (fun b => b ≠ q10 ∧ b ≠ q11) W2 ⟨pq, [r0, r2]⟩ awb 2 cwb := by rw [← hW2]; exact ((hxwb.imp (K' := (fun b => b ≠ q10 ∧ b ≠ q11)) (fun b hb hk => by first | omega | (simp only at hk ⊢; omega) | (show _ ≠ _; omega) | (show _ ∧ _; omega)))).below ((Below.refl _ WZ).alloc (Nat.le_refl _) _)
     clear hW2 hq
     exact Ks1_10_11_R8 q10 q11 awb cwb W2 (hHeld2) (hB10') (hL10) (hBn) (hLn) ((by omega)) (hxwb')
    case ks1_10_11_R8 =>
     intro q10 q11 awb cwb WZ hHeld hB10 hL10 hB11 hL11 hN10_11 hxwb
     refine Go.rd (rs := [12]) ?_
     refine AllReadyH.cons (o := ⟨none, .store 69 (.tmp 9) (.tmp 79), 0, "law.go:44", #[⟨10, .data⟩, ⟨7, .data⟩, ⟨5, .chain⟩, ⟨0, .phase⟩, ⟨1, .phase⟩, ⟨2, .phase⟩, ⟨3, .phase⟩, ⟨4, .phase⟩, ⟨5, .phase⟩, ⟨6, .phase⟩, ⟨7, .phase⟩, ⟨8, .textOnly .lateStores⟩, ⟨9, .textOnly .lateStores⟩, ⟨10, .phase⟩, ⟨11, .phase⟩], none⟩) rfl (fun K hK => ?_) AllReadyH.nil
     obtain ⟨W3, hQ⟩ := put_row (ty := 69) hB10 (x := wtC pq awb 2 cwb) (rfl) (sizeWt) (wt_one _ _ _ _)
     have hHeld2 := below_grown hHeld hQ.grown hHeld.size hL10
     rw [if_pos (by rfl)]
     refine wp_store_mid 69 _ _ rfl q10 0 (wtC pq awb 2 cwb : List Value).toArray (by rfl) (by rfl) hQ.there hQ.info (by simpa using hQ.one) ?_
     generalize hWq : World.setCells _ _ _ _ = Wa
     obtain rfl : W3 = Wa := by rw [← hWq]; exact hQ.eq
     clear hWq
     refine hK.out _ _ hHeld2 (fun _ => ?_)
     clear hK K
     try simp only [Act.put]
     exact Ks2_10_11_R8 q10 q11 awb cwb W3 (hHeld2) (hQ.blk) (hL10) (hB11.grown hQ.grown (fun e => by injection e with e; exact hN10_11 e.symm)) (hL11) (hN10_11) (hxwb.keep (Keeps.grown hQ.grown (fun b hb => by omega)))
    case ks2_10_11_R8 =>
     intro q10 q11 awb cwb WZ hHeld hB10 hL10 hB11 hL11 hN10_11 hxwb
     refine Go.rd (rs := [13]) ?_
     refine AllReadyH.cons (o := ⟨none, .store 64 (.tmp 10) (.tmp 80), 0, "law.go:44", #[⟨11, .data⟩, ⟨8, .data⟩, ⟨12, .chain⟩, ⟨0, .phase⟩, ⟨1, .phase⟩, ⟨2, .phase⟩, ⟨3, .phase⟩, ⟨4, .phase⟩, ⟨5, .phase⟩, ⟨6, .phase⟩, ⟨7, .phase⟩, ⟨8, .phase⟩, ⟨9, .textOnly .lateStores⟩, ⟨10, .phase⟩, ⟨11, .phase⟩, ⟨12, .phase⟩], none⟩) rfl (fun K hK => ?_) AllReadyH.nil
     obtain ⟨W3, hQ⟩ := put_row (ty := 64) hB11 (x := zS) (hzl.out) (hzo.out) (hz1.out)
     have hHeld2 := below_grown hHeld hQ.grown hHeld.size hL11
     rw [if_pos (by rfl)]
     refine wp_store_mid 64 _ _ rfl q11 0 (zS : List Value).toArray (by rfl) (by rfl) hQ.there hQ.info (by simpa using hQ.one) ?_
     generalize hWq : World.setCells _ _ _ _ = Wa
     obtain rfl : W3 = Wa := by rw [← hWq]; exact hQ.eq
     clear hWq
     refine hK.out _ _ hHeld2 (fun _ => ?_)
     clear hK K
     try simp only [Act.put]
     refine tQ 14 rfl hHeld2 ?_
     refine wpAnyH_done (by kernel_rfl) ?_ _
     exact KfinR8 q10 q11 awb cwb W3 (hHeld2) (hB10.grown hQ.grown (fun e => by injection e with e; exact hN10_11 e)) (hL10) (hQ.blk) (hL11) (hN10_11) (hxwb.keep (Keeps.grown hQ.grown (fun b hb => by omega)))
    case kfinR8 =>
     intro q8a q8b awb cwb v8 hst hBa _ hBb _ _ hWx
     replace hB1 := Lib.hid (hB1.out.below hst hB1.out.lt)
     replace hD1 := Lib.hid (hD1.out.below hst)
     replace hD4 := Lib.hid (hD4.out.below hst)
     replace hB4 := Lib.hid (hB4.out.below hst hB4.out.lt)
     replace hB5 := Lib.hid (hB5.out.below hst hB5.out.lt)
     replace hD5 := Lib.hid (hD5.out.below hst)
     replace hba := Lib.hid (hba.out.below hst hba.out.lt)
     replace wa := Lib.hid (wa.out.below hst)
     replace hbw := Lib.hid (hbw.out.trans (hst.mono hbw.out.size))
     have hbb := Lib.hid hBa
     have wb : Hid (WM (fun _ => True) v8 ⟨pq, [r0, r2]⟩ awb 2 cwb) := hWx.imp (fun _ _ _ => trivial)
     clear hst hBa hBb hWx hac
     go_upto_region 9 with fail
     have hac := Lib.hid (fun (K0 : Nat → Prop) (a' : Option Addr) (n' c' : Nat) (W : World) hT hM => accept_at (K := K0) hG'.out.a2 (m := 3) rfl ok1.out hg1.out (a := a') (n := n') (c := c') (w := W) hT hM)
     rw [hzS.out] at hac
     refine share (G := ∀ (q10 : Nat) (q11 : Nat) (awc : Option Addr) (cwc : Nat) (WZ : World), (Below v8.heap.size v8 WZ) → (Blk WZ q10 69 (wtC pq awc 3 cwc)) → (v8.heap.size ≤ q10) → (Blk WZ q11 64 (zS)) → (v8.heap.size ≤ q11) → (q10 ≠ q11) → (WM (fun b => b ≠ q10 ∧ b ≠ q11) WZ ⟨pq, [r0, r1, r2]⟩ awc 3 cwc) → (?GfinR9 : Nat → Nat → Option Addr → Nat → World → Prop) q10 q11 awc cwc WZ) ?hfinR9 ?kfinR9
     case' hfinR9 =>
      intro KfinR9
     case' hfinR9 =>
      refine share (G := ∀ (q10 : Nat) (q11 : Nat) (awc : Option Addr) (cwc : Nat) (WZ : World), (Below v8.heap.size v8 WZ) → (Blk WZ q10 69 (wtC pq awc 3 cwc)) → (v8.heap.size ≤ q10) → (Blk WZ q11 64 (spC Go.Dr.zeroS)) → (v8.heap.size ≤ q11) → (q10 ≠ q11) → (WM (fun b => b ≠ q10 ∧ b ≠ q11) WZ ⟨pq, [r0, r1, r2]⟩ awc 3 cwc) → (?Gs2_10_11_R9 : Nat → Nat → Option Addr → Nat → World → Prop) q10 q11 awc cwc WZ) ?hs2_10_11_R9 ?ks2_10_11_R9
     case' hs2_10_11_R9 => intro Ks2_10_11_R9
     case' hs2_10_11_R9 =>
      refine share (G := ∀ (q10 : Nat) (q11 : Nat) (awc : Option Addr) (cwc : Nat) (WZ : World), (Below v8.heap.size v8 WZ) → (Blk WZ q10 69 (wtC 0 none 0 0)) → (v8.heap.size ≤ q10) → (Blk WZ q11 64 (spC Go.Dr.zeroS)) → (v8.heap.size ≤ q11) → (q10 ≠ q11) → (WM (fun b => b ≠ q10 ∧ b ≠ q11) WZ ⟨pq, [r0, r1, r2]⟩ awc 3 cwc) → (?Gs1_10_11_R9 : Nat → Nat → Option Addr → Nat → World → Prop) q10 q11 awc cwc WZ) ?hs1_10_11_R9 ?ks1_10_11_R9
     case' hs1_10_11_R9 => intro Ks1_10_11_R9
     case' hs1_10_11_R9 =>
      refine share (G := ∀ (q10 : Nat) (awc : Option Addr) (cwc : Nat) (WZ : World), (Below v8.heap.size v8 WZ) → (Blk WZ q10 69 (wtC 0 none 0 0)) → (v8.heap.size ≤ q10) → (WM (fun b => b ≠ q10) WZ ⟨pq, [r0, r1, r2]⟩ awc 3 cwc) → (?Gs1_10_R9 : Nat → Option Addr → Nat → World → Prop) q10 awc cwc WZ) ?hs1_10_R9 ?ks1_10_R9
     case' hs1_10_R9 => intro Ks1_10_R9
     case' hs1_10_R9 =>
      refine share (G := ∀ (q11 : Nat) (awc : Option Addr) (cwc : Nat) (WZ : World), (Below v8.heap.size v8 WZ) → (Blk WZ q11 64 (spC Go.Dr.zeroS)) → (v8.heap.size ≤ q11) → (WM (fun b => b ≠ q11) WZ ⟨pq, [r0, r1, r2]⟩ awc 3 cwc) → (?Gs1_11_R9 : Nat → Option Addr → Nat → World → Prop) q11 awc cwc WZ) ?hs1_11_R9 ?ks1_11_R9
     case' hs1_11_R9 => intro Ks1_11_R9
     case' hs1_11_R9 =>
      refine share (G := ∀ (awc : Option Addr) (cwc : Nat) (WZ : World), (Below v8.heap.size v8 WZ) → (WM (fun _ => True) WZ ⟨pq, [r0, r1, r2]⟩ awc 3 cwc) → (?Gs1_R9 : Option Addr → Nat → World → Prop) awc cwc WZ) ?hs1_R9 ?ks1_R9
     case' hs1_R9 => intro Ks1_R9
     case' hs1_R9 =>
      refine share (G := ∀ (q10 : Nat) (q11 : Nat) (WZ : World), (Below v8.heap.size v8 WZ) → (Blk WZ q10 69 (wtC 0 none 0 0)) → (v8.heap.size ≤ q10) → (Blk WZ q11 64 (spC Go.Dr.zeroS)) → (v8.heap.size ≤ q11) → (q10 ≠ q11) → (?Gs0_10_11_R9 : Nat → Nat → World → Prop) q10 q11 WZ) ?hs0_10_11_R9 ?ks0_10_11_R9
     case' hs0_10_11_R9 => intro Ks0_10_11_R9
     case' hs0_10_11_R9 =>
      refine share (G := ∀ (q10 : Nat) (WZ : World), (Below v8.heap.size v8 WZ) → (Blk WZ q10 69 (wtC 0 none 0 0)) → (v8.heap.size ≤ q10) → (?Gs0_10_R9 : Nat → World → Prop) q10 WZ) ?hs0_10_R9 ?ks0_10_R9
     case' hs0_10_R9 => intro Ks0_10_R9
     case' hs0_10_R9 =>
      refine share (G := ∀ (q11 : Nat) (WZ : World), (Below v8.heap.size v8 WZ) → (Blk WZ q11 64 (spC Go.Dr.zeroS)) → (v8.heap.size ≤ q11) → (?Gs0_11_R9 : Nat → World → Prop) q11 WZ) ?hs0_11_R9 ?ks0_11_R9
     case' hs0_11_R9 => intro Ks0_11_R9
     case hs0_11_R9 =>
      refine wp_region_held_drew (S := fun wz => Below v8.heap.size v8 wz) (by kernel_rfl) ((Below.refl _ v8).drew) (fun hHeld => ?_)
      generalize v8.drew = WZ at *
      refine tX 0 rfl (fun wz hSw => And.intro ((hbb.out.below hSw hbb.out.lt).at_ (i := 0) (x := .int .i64 pq) rfl) ((hbb.out.below hSw hbb.out.lt).at_ (i := 1) (x := .slice awb 2 cwb) rfl)) hHeld ?_
      refine tQ 1 rfl hHeld ?_
      refine tX 2 rfl (fun wz hSw => And.intro ((hB1.out.below hSw hB1.out.lt).at_ (i := 0) (x := .int .i64 5) rfl) (And.intro ((hB1.out.below hSw hB1.out.lt).at_ (i := 1) (x := .slice la 0 lc) rfl) ((hB1.out.below hSw hB1.out.lt).at_ (i := 2) (x := .slice (some ⟨b1, p1, none⟩) 3 rc) rfl))) hHeld ?_
      refine tQ 3 rfl hHeld ?_
      refine tY 4 rfl b1 (p1 + 67) (g1) (fun wz h => by have hh := (hD1.out.below h).qs.at_ (k := 1) (x := r1) rfl; rw [hg1.out] at hh; exact hh) Tryz.underlying62 hi1.out hHeld ?_
      refine Go.rd (rs := [5, 10, 11]) ?_
      refine tR rfl (fun K hK => ?_) (tR rfl (fun K hK => ?_) (tR rfl (fun K hK => ?_) Go.rn))
      case refine_1 =>
       go_simp
       go_at_call 45
       refine (hac.out (fun b => b < v8.heap.size) awb 2 cwb _ (HT'.out.below (hbw.out.trans (hHeld.mono hbw.out.size))) ((wb.out.imp (K' := fun b => b < v8.heap.size) (fun b hb _ => hb)).below hHeld)).mono ?_
       rintro e wq ⟨awc, cwc, rfl, hWMx, hst⟩


       refine hK.out _ _ (hHeld.trans (hst.mono hHeld.size)) (fun hHeld2 => ?_)
       clear hK K
       refine tQ 6 rfl hHeld2 ?_
       refine tQ 7 rfl hHeld2 ?_
       refine tQ 8 rfl hHeld2 ?_
       refine tQ 9 rfl hHeld2 ?_
       exact Ks1_R9 awc cwc wq (hHeld2) (hWMx.imp (fun b hb hk => by first | trivial | (have h9 := hB10.lt; have h10 := hB11.lt; omega) | (have h9 := hB10.lt; omega) | (have h10 := hB11.lt; omega)))
      case refine_2 =>
       go_simp
       refine hK.out _ _ (hHeld.alloc hHeld.size _) (fun hHeld2 => ?_)
       clear hK K
       try simp only [Act.put, sA, s0, s1]
       generalize hW2 : World.alloc WZ _ = W2
       rw [hW2] at hHeld2
       generalize hq : WZ.heap.size = q10
       have hBn : Blk W2 q10 69 (wtC 0 none 0 0) := by rw [← hW2, ← hq]; exact Blk.new _ _ _
       have hLn := hHeld.size
       rw [hq] at hLn
       clear hW2 hq
       exact Ks0_10_R9 q10 W2 (hHeld2) (hBn) (hLn)
      case refine_3 =>
       go_simp
       refine hK.out _ _ (hHeld.alloc hHeld.size _) (fun hHeld2 => ?_)
       clear hK K
       try simp only [Act.put, sA, s0, s1]
       generalize hW2 : World.alloc WZ _ = W2
       rw [hW2] at hHeld2
       generalize hq : WZ.heap.size = q11
       have hBn : Blk W2 q11 64 (spC Go.Dr.zeroS) := by rw [← hW2, ← hq]; exact Blk.new _ _ _
       have hLn := hHeld.size
       rw [hq] at hLn
       clear hW2 hq
       exact Ks0_11_R9 q11 W2 (hHeld2) (hBn) (hLn)
     case ks0_11_R9 =>
      intro q11 WZ hHeld hB11 hL11
      refine Go.rd (rs := [5, 10]) ?_
      refine tR rfl (fun K hK => ?_) (tR rfl (fun K hK => ?_) Go.rn)
      case refine_1 =>
       go_simp
       go_at_call 45
       refine (hac.out (fun b => b < v8.heap.size) awb 2 cwb _ (HT'.out.below (hbw.out.trans (hHeld.mono hbw.out.size))) ((wb.out.imp (K' := fun b => b < v8.heap.size) (fun b hb _ => hb)).below hHeld)).mono ?_
       rintro e wq ⟨awc, cwc, rfl, hWMx, hst⟩


       refine hK.out _ _ (hHeld.trans (hst.mono hHeld.size)) (fun hHeld2 => ?_)
       clear hK K
       refine tQ 6 rfl hHeld2 ?_
       refine tQ 7 rfl hHeld2 ?_
       refine tQ 8 rfl hHeld2 ?_
       refine tQ 9 rfl hHeld2 ?_
       exact Ks1_11_R9 q11 awc cwc wq (hHeld2) (hB11.below hst hB11.lt) (hL11) (hWMx.imp (fun b hb hk => by first | trivial | (have h9 := hB10.lt; have h10 := hB11.lt; omega) | (have h9 := hB10.lt; omega) | (have h10 := hB11.lt; omega)))
      case refine_2 =>
       go_simp
       refine hK.out _ _ (hHeld.alloc hHeld.size _) (fun hHeld2 => ?_)
       clear hK K
       try simp only [Act.put, sA, s0, s1]
       generalize hW2 : World.alloc WZ _ = W2
       rw [hW2] at hHeld2
       generalize hq : WZ.heap.size = q10
       have hBn : Blk W2 q10 69 (wtC 0 none 0 0) := by rw [← hW2, ← hq]; exact Blk.new _ _ _
       have hLn := hHeld.size
       rw [hq] at hLn
       have hB11' : Blk W2 q11 64 (spC Go.Dr.zeroS) := by rw [← hW2]; exact hB11.alloc _
       have hN11' := hB11.lt
       rw [hq] at hN11'
       clear hW2 hq
       exact Ks0_10_11_R9 q10 q11 W2 (hHeld2) (hBn) (hLn) (hB11') (hL11) ((by omega))
     case ks0_10_R9 =>
      intro q10 WZ hHeld hB10 hL10
      refine Go.rd (rs := [5, 11]) ?_
      refine tR rfl (fun K hK => ?_) (tR rfl (fun K hK => ?_) Go.rn)
      case refine_1 =>
       go_simp
       go_at_call 45
       refine (hac.out (fun b => b < v8.heap.size) awb 2 cwb _ (HT'.out.below (hbw.out.trans (hHeld.mono hbw.out.size))) ((wb.out.imp (K' := fun b => b < v8.heap.size) (fun b hb _ => hb)).below hHeld)).mono ?_
       rintro e wq ⟨awc, cwc, rfl, hWMx, hst⟩


       refine hK.out _ _ (hHeld.trans (hst.mono hHeld.size)) (fun hHeld2 => ?_)
       clear hK K
       refine tQ 6 rfl hHeld2 ?_
       refine tQ 7 rfl hHeld2 ?_
       refine tQ 8 rfl hHeld2 ?_
       refine tQ 9 rfl hHeld2 ?_
       exact Ks1_10_R9 q10 awc cwc wq (hHeld2) (hB10.below hst hB10.lt) (hL10) (hWMx.imp (fun b hb hk => by first | trivial | (have h9 := hB10.lt; have h10 := hB11.lt; omega) | (have h9 := hB10.lt; omega) | (have h10 := hB11.lt; omega)))
      case refine_2 =>
       go_simp
       refine hK.out _ _ (hHeld.alloc hHeld.size _) (fun hHeld2 => ?_)
       clear hK K
       try simp only [Act.put, sA, s0, s1]
       generalize hW2 : World.alloc WZ _ = W2
       rw [hW2] at hHeld2
       generalize hq : WZ.heap.size = q11
       have hBn : Blk W2 q11 64 (spC Go.Dr.zeroS) := by rw [← hW2, ← hq]; exact Blk.new _ _ _
       have hLn := hHeld.size
       rw [hq] at hLn
       have hB10' : Blk W2 q10 69 (wtC 0 none 0 0) := by rw [← hW2]; exact hB10.alloc _
       have hN10' := hB10.lt
       rw [hq] at hN10'
       clear hW2 hq
       exact Ks0_10_11_R9 q10 q11 W2 (hHeld2) (hB10') (hL10) (hBn) (hLn) ((by omega))
     case ks0_10_11_R9 =>
      intro q10 q11 WZ hHeld hB10 hL10 hB11 hL11 hN10_11
      refine tO 5 rfl (fun K hK => ?_)
      go_simp
      go_at_call 45
      refine (hac.out (fun b => b < v8.heap.size) awb 2 cwb _ (HT'.out.below (hbw.out.trans (hHeld.mono hbw.out.size))) ((wb.out.imp (K' := fun b => b < v8.heap.size) (fun b hb _ => hb)).below hHeld)).mono ?_
      rintro e wq ⟨awc, cwc, rfl, hWMx, hst⟩


      refine hK.out _ _ (hHeld.trans (hst.mono hHeld.size)) (fun hHeld2 => ?_)
      clear hK K
      refine tQ 6 rfl hHeld2 ?_
      refine tQ 7 rfl hHeld2 ?_
      refine tQ 8 rfl hHeld2 ?_
      refine tQ 9 rfl hHeld2 ?_
      exact Ks1_10_11_R9 q10 q11 awc cwc wq (hHeld2) (hB10.below hst hB10.lt) (hL10) (hB11.below hst hB11.lt) (hL11) (hN10_11) (hWMx.imp (fun b hb hk => by first | trivial | (have h9 := hB10.lt; have h10 := hB11.lt; omega) | (have h9 := hB10.lt; omega) | (have h10 := hB11.lt; omega)))
     case ks1_R9 =>
      intro awc cwc WZ hHeld hxwc
      refine Go.rd (rs := [10, 11]) ?_
      refine tR rfl (fun K hK => ?_) (tR rfl (fun K hK => ?_) Go.rn)
      case refine_1 =>
       go_simp
       refine hK.out _ _ (hHeld.alloc hHeld.size _) (fun hHeld2 => ?_)
       clear hK K
       try simp only [Act.put, sA, s0, s1]
       generalize hW2 : World.alloc WZ _ = W2
       rw [hW2] at hHeld2
       generalize hq : WZ.heap.size = q10
       have hBn : Blk W2 q10 69 (wtC 0 none 0 0) := by rw [← hW2, ← hq]; exact Blk.new _ _ _
       have hLn := hHeld.size
       rw [hq] at hLn
       have hxwc' : WM (fun b => b ≠ q10) W2 ⟨pq, [r0, r1, r2]⟩ awc 3 cwc := by rw [← hW2]; exact ((hxwc.imp (K' := (fun b => b ≠ q10)) (fun b hb hk => by first | omega | (simp only at hk ⊢; omega) | (show _ ≠ _; omega) | (show _ ∧ _; omega)))).below ((Below.refl _ WZ).alloc (Nat.le_refl _) _)
       clear hW2 hq
       exact Ks1_10_R9 q10 awc cwc W2 (hHeld2) (hBn) (hLn) (hxwc')
      case refine_2 =>
       go_simp
       refine hK.out _ _ (hHeld.alloc hHeld.size _) (fun hHeld2 => ?_)
       clear hK K
       try simp only [Act.put, sA, s0, s1]
       generalize hW2 : World.alloc WZ _ = W2
       rw [hW2] at hHeld2
       generalize hq : WZ.heap.size = q11
       have hBn : Blk W2 q11 64 (spC Go.Dr.zeroS) := by rw [← hW2, ← hq]; exact Blk.new _ _ _
       have hLn := hHeld.size
       rw [hq] at hLn
       have hxwc' : WM (fun b => b ≠ q11) W2 ⟨pq, [r0, r1, r2]⟩ awc 3 cwc := by rw [← hW2]; exact ((hxwc.imp (K' := (fun b => b ≠ q11)) (fun b hb hk => by first | omega | (simp only at hk ⊢; omega) | (show _ ≠ _; omega) | (show _ ∧ _; omega)))).below ((Below.refl _ WZ).alloc (Nat.le_refl _) _)
       clear hW2 hq
       exact Ks1_11_R9 q11 awc cwc W2 (hHeld2) (hBn) (hLn) (hxwc')
     case ks1_11_R9 =>
      intro q11 awc cwc WZ hHeld hB11 hL11 hxwc
      refine tO 10 rfl (fun K hK => ?_)
      go_simp
      refine hK.out _ _ (hHeld.alloc hHeld.size _) (fun hHeld2 => ?_)
      clear hK K
      try simp only [Act.put, sA, s0, s1]
      generalize hW2 : World.alloc WZ _ = W2
      rw [hW2] at hHeld2
      generalize hq : WZ.heap.size = q10
      have hBn : Blk W2 q10 69 (wtC 0 none 0 0) := by rw [← hW2, ← hq]; exact Blk.new _ _ _
      have hLn := hHeld.size
      rw [hq] at hLn
      have hB11' : Blk W2 q11 64 (spC Go.Dr.zeroS) := by rw [← hW2]; exact hB11.alloc _
      have hN11' := hB11.lt
      rw [hq] at hN11'
      have hxwc' : WM (fun b => b ≠ q10 ∧ b ≠ q11) W2 ⟨pq, [r0, r1, r2]⟩ awc 3 cwc := by rw [← hW2]; exact ((hxwc.imp (K' := (fun b => b ≠ q10 ∧ b ≠ q11)) (fun b hb hk => by first | omega | (simp only at hk ⊢; omega) | (show _ ≠ _; omega) | (show _ ∧ _; omega)))).below ((Below.refl _ WZ).alloc (Nat.le_refl _) _)
      clear hW2 hq
      exact Ks1_10_11_R9 q10 q11 awc cwc W2 (hHeld2) (hBn) (hLn) (hB11') (hL11) ((by omega)) (hxwc')
     case ks1_10_R9 =>
      intro q10 awc cwc WZ hHeld hB10 hL10 hxwc
      refine tO 11 rfl (fun K hK => ?_)
      go_simp
      refine hK.out _ _ (hHeld.alloc hHeld.size _) (fun hHeld2 => ?_)
      clear hK K
      try simp only [Act.put, sA, s0, s1]
      generalize hW2 : World.alloc WZ _ = W2
      rw [hW2] at hHeld2
      generalize hq : WZ.heap.size = q11
      have hBn : Blk W2 q11 64 (spC Go.Dr.zeroS) := by rw [← hW2, ← hq]; exact Blk.new _ _ _
      have hLn := hHeld.size
      rw [hq] at hLn
      have hB10' : Blk W2 q10 69 (wtC 0 none 0 0) := by rw [← hW2]; exact hB10.alloc _
      have hN10' := hB10.lt
      rw [hq] at hN10'
      have hxwc' : WM (fun b => b ≠ q10 ∧ b ≠ q11) W2 ⟨pq, [r0, r1, r2]⟩ awc 3 cwc := by rw [← hW2]; exact ((hxwc.imp (K' := (fun b => b ≠ q10 ∧ b ≠ q11)) (fun b hb hk => by first | omega | (simp only at hk ⊢; omega) | (show _ ≠ _; omega) | (show _ ∧ _; omega)))).below ((Below.refl _ WZ).alloc (Nat.le_refl _) _)
      clear hW2 hq
      exact Ks1_10_11_R9 q10 q11 awc cwc W2 (hHeld2) (hB10') (hL10) (hBn) (hLn) ((by omega)) (hxwc')
     case ks1_10_11_R9 =>
      intro q10 q11 awc cwc WZ hHeld hB10 hL10 hB11 hL11 hN10_11 hxwc
      refine Go.rd (rs := [12]) ?_
      refine AllReadyH.cons (o := ⟨none, .store 69 (.tmp 12) (.tmp 89), 0, "law.go:45", #[⟨10, .data⟩, ⟨7, .data⟩, ⟨5, .chain⟩, ⟨0, .phase⟩, ⟨1, .phase⟩, ⟨2, .phase⟩, ⟨3, .phase⟩, ⟨4, .phase⟩, ⟨5, .phase⟩, ⟨6, .phase⟩, ⟨7, .phase⟩, ⟨8, .textOnly .lateStores⟩, ⟨9, .textOnly .lateStores⟩, ⟨10, .phase⟩, ⟨11, .phase⟩], none⟩) rfl (fun K hK => ?_) AllReadyH.nil
      obtain ⟨W3, hQ⟩ := put_row (ty := 69) hB10 (x := wtC pq awc 3 cwc) (rfl) (sizeWt) (wt_one _ _ _ _)
      have hHeld2 := below_grown hHeld hQ.grown hHeld.size hL10
      rw [if_pos (by rfl)]
      refine wp_store_mid 69 _ _ rfl q10 0 (wtC pq awc 3 cwc : List Value).toArray (by rfl) (by rfl) hQ.there hQ.info (by simpa using hQ.one) ?_
      generalize hWq : World.setCells _ _ _ _ = Wa
      obtain rfl : W3 = Wa := by rw [← hWq]; exact hQ.eq
      clear hWq
      refine hK.out _ _ hHeld2 (fun _ => ?_)
      clear hK K
      try simp only [Act.put]
      exact Ks2_10_11_R9 q10 q11 awc cwc W3 (hHeld2) (hQ.blk) (hL10) (hB11.grown hQ.grown (fun e => by injection e with e; exact hN10_11 e.symm)) (hL11) (hN10_11) (hxwc.keep (Keeps.grown hQ.grown (fun b hb => by omega)))
     case ks2_10_11_R9 =>
      intro q10 q11 awc cwc WZ hHeld hB10 hL10 hB11 hL11 hN10_11 hxwc
      refine Go.rd (rs := [13]) ?_
      refine AllReadyH.cons (o := ⟨none, .store 64 (.tmp 13) (.tmp 90), 0, "law.go:45", #[⟨11, .data⟩, ⟨8, .data⟩, ⟨12, .chain⟩, ⟨0, .phase⟩, ⟨1, .phase⟩, ⟨2, .phase⟩, ⟨3, .phase⟩, ⟨4, .phase⟩, ⟨5, .phase⟩, ⟨6, .phase⟩, ⟨7, .phase⟩, ⟨8, .phase⟩, ⟨9, .textOnly .lateStores⟩, ⟨10, .phase⟩, ⟨11, .phase⟩, ⟨12, .phase⟩], none⟩) rfl (fun K hK => ?_) AllReadyH.nil
      obtain ⟨W3, hQ⟩ := put_row (ty := 64) hB11 (x := zS) (hzl.out) (hzo.out) (hz1.out)
      have hHeld2 := below_grown hHeld hQ.grown hHeld.size hL11
      rw [if_pos (by rfl)]
      refine wp_store_mid 64 _ _ rfl q11 0 (zS : List Value).toArray (by rfl) (by rfl) hQ.there hQ.info (by simpa using hQ.one) ?_
      generalize hWq : World.setCells _ _ _ _ = Wa
      obtain rfl : W3 = Wa := by rw [← hWq]; exact hQ.eq
      clear hWq
      refine hK.out _ _ hHeld2 (fun _ => ?_)
      clear hK K
      try simp only [Act.put]
      refine tQ 14 rfl hHeld2 ?_
      refine wpAnyH_done (by kernel_rfl) ?_ _
      exact KfinR9 q10 q11 awc cwc W3 (hHeld2) (hB10.grown hQ.grown (fun e => by injection e with e; exact hN10_11 e)) (hL10) (hQ.blk) (hL11) (hN10_11) (hxwc.keep (Keeps.grown hQ.grown (fun b hb => by omega)))
     case kfinR9 =>
      intro q9a q9b awc cwc v9 hst hBa _ hBb _ _ hWx
      replace hB1 := Lib.hid (hB1.out.below hst hB1.out.lt)
      replace hD1 := Lib.hid (hD1.out.below hst)
      replace hD4 := Lib.hid (hD4.out.below hst)
      replace hB4 := Lib.hid (hB4.out.below hst hB4.out.lt)
      replace hB5 := Lib.hid (hB5.out.below hst hB5.out.lt)
      replace hD5 := Lib.hid (hD5.out.below hst)
      replace hba := Lib.hid (hba.out.below hst hba.out.lt)
      replace wa := Lib.hid (wa.out.below hst)
      replace hbb := Lib.hid (hbb.out.below hst hbb.out.lt)
      replace wb := Lib.hid (wb.out.below hst)
      replace hbw := Lib.hid (hbw.out.trans (hst.mono hbw.out.size))
      have hbc := Lib.hid hBa
      have wc : Hid (WM (fun _ => True) v9 ⟨pq, [r0, r1, r2]⟩ awc 3 cwc) := hWx.imp (fun _ _ _ => trivial)
      clear hst hBa hBb hWx hac
      go_upto_region 10 with fail
      have hac := Lib.hid (fun (K0 : Nat → Prop) (a' : Option Addr) (n' c' : Nat) (W : World) hT hM => accept_at (K := K0) hG'.out.a3 (m := 4) rfl ok3.out hg3.out (a := a') (n := n') (c := c') (w := W) hT hM)
      rw [hzS.out] at hac
      refine share (G := ∀ (q10 : Nat) (q11 : Nat) (awx : Option Addr) (cwx : Nat) (WZ : World), (Below v9.heap.size v9 WZ) → (Blk WZ q10 69 (wtC pq awx 4 cwx)) → (v9.heap.size ≤ q10) → (Blk WZ q11 64 (zS)) → (v9.heap.size ≤ q11) → (q10 ≠ q11) → (WM (fun b => b ≠ q10 ∧ b ≠ q11) WZ ⟨pq, [r0, r1, r2, o3]⟩ awx 4 cwx) → (?GfinR10 : Nat → Nat → Option Addr → Nat → World → Prop) q10 q11 awx cwx WZ) ?hfinR10 ?kfinR10
      case' hfinR10 =>
       intro KfinR10
      case' hfinR10 =>
       refine share (G := ∀ (q10 : Nat) (q11 : Nat) (awx : Option Addr) (cwx : Nat) (WZ : World), (Below v9.heap.size v9 WZ) → (Blk WZ q10 69 (wtC pq awx 4 cwx)) → (v9.heap.size ≤ q10) → (Blk WZ q11 64 (spC Go.Dr.zeroS)) → (v9.heap.size ≤ q11) → (q10 ≠ q11) → (WM (fun b => b ≠ q10 ∧ b ≠ q11) WZ ⟨pq, [r0, r1, r2, o3]⟩ awx 4 cwx) → (?Gs2_10_11_R10 : Nat → Nat → Option Addr → Nat → World → Prop) q10 q11 awx cwx WZ) ?hs2_10_11_R10 ?ks2_10_11_R10
      case' hs2_10_11_R10 => intro Ks2_10_11_R10
      case' hs2_10_11_R10 =>
       refine share (G := ∀ (q10 : Nat) (q11 : Nat) (awx : Option Addr) (cwx : Nat) (WZ : World), (Below v9.heap.size v9 WZ) → (Blk WZ q10 69 (wtC 0 none 0 0)) → (v9.heap.size ≤ q10) → (Blk WZ q11 64 (spC Go.Dr.zeroS)) → (v9.heap.size ≤ q11) → (q10 ≠ q11) → (WM (fun b => b ≠ q10 ∧ b ≠ q11) WZ ⟨pq, [r0, r1, r2, o3]⟩ awx 4 cwx) → (?Gs1_10_11_R10 : Nat → Nat → Option Addr → Nat → World → Prop) q10 q11 awx cwx WZ) ?hs1_10_11_R10 ?ks1_10_11_R10
      case' hs1_10_11_R10 => intro Ks1_10_11_R10
      case' hs1_10_11_R10 =>
       refine share (G := ∀ (q10 : Nat) (awx : Option Addr) (cwx : Nat) (WZ : World), (Below v9.heap.size v9 WZ) → (Blk WZ q10 69 (wtC 0 none 0 0)) → (v9.heap.size ≤ q10) → (WM (fun b => b ≠ q10) WZ ⟨pq, [r0, r1, r2, o3]⟩ awx 4 cwx) → (?Gs1_10_R10 : Nat → Option Addr → Nat → World → Prop) q10 awx cwx WZ) ?hs1_10_R10 ?ks1_10_R10
      case' hs1_10_R10 => intro Ks1_10_R10
      case' hs1_10_R10 =>
       refine share (G := ∀ (q11 : Nat) (awx : Option Addr) (cwx : Nat) (WZ : World), (Below v9.heap.size v9 WZ) → (Blk WZ q11 64 (spC Go.Dr.zeroS)) → (v9.heap.size ≤ q11) → (WM (fun b => b ≠ q11) WZ ⟨pq, [r0, r1, r2, o3]⟩ awx 4 cwx) → (?Gs1_11_R10 : Nat → Option Addr → Nat → World → Prop) q11 awx cwx WZ) ?hs1_11_R10 ?ks1_11_R10
      case' hs1_11_R10 => intro Ks1_11_R10
      case' hs1_11_R10 =>
       refine share (G := ∀ (awx : Option Addr) (cwx : Nat) (WZ : World), (Below v9.heap.size v9 WZ) → (WM (fun _ => True) WZ ⟨pq, [r0, r1, r2, o3]⟩ awx 4 cwx) → (?Gs1_R10 : Option Addr → Nat → World → Prop) awx cwx WZ) ?hs1_R10 ?ks1_R10
      case' hs1_R10 => intro Ks1_R10
      case' hs1_R10 =>
       refine share (G := ∀ (q10 : Nat) (q11 : Nat) (WZ : World), (Below v9.heap.size v9 WZ) → (Blk WZ q10 69 (wtC 0 none 0 0)) → (v9.heap.size ≤ q10) → (Blk WZ q11 64 (spC Go.Dr.zeroS)) → (v9.heap.size ≤ q11) → (q10 ≠ q11) → (?Gs0_10_11_R10 : Nat → Nat → World → Prop) q10 q11 WZ) ?hs0_10_11_R10 ?ks0_10_11_R10
      case' hs0_10_11_R10 => intro Ks0_10_11_R10
      case' hs0_10_11_R10 =>
       refine share (G := ∀ (q10 : Nat) (WZ : World), (Below v9.heap.size v9 WZ) → (Blk WZ q10 69 (wtC 0 none 0 0)) → (v9.heap.size ≤ q10) → (?Gs0_10_R10 : Nat → World → Prop) q10 WZ) ?hs0_10_R10 ?ks0_10_R10
      case' hs0_10_R10 => intro Ks0_10_R10
      case' hs0_10_R10 =>
       refine share (G := ∀ (q11 : Nat) (WZ : World), (Below v9.heap.size v9 WZ) → (Blk WZ q11 64 (spC Go.Dr.zeroS)) → (v9.heap.size ≤ q11) → (?Gs0_11_R10 : Nat → World → Prop) q11 WZ) ?hs0_11_R10 ?ks0_11_R10
      case' hs0_11_R10 => intro Ks0_11_R10
      case hs0_11_R10 =>
       refine wp_region_held_drew (S := fun wz => Below v9.heap.size v9 wz) (by kernel_rfl) ((Below.refl _ v9).drew) (fun hHeld => ?_)
       generalize v9.drew = WZ at *
       refine tX 0 rfl (fun wz hSw => And.intro ((hbc.out.below hSw hbc.out.lt).at_ (i := 0) (x := .int .i64 pq) rfl) ((hbc.out.below hSw hbc.out.lt).at_ (i := 1) (x := .slice awc 3 cwc) rfl)) hHeld ?_
       refine tQ 1 rfl hHeld ?_
       refine tX 2 rfl (fun wz hSw => And.intro ((hB4.out.below hSw hB4.out.lt).at_ (i := 0) (x := .int .i64 5) rfl) (And.intro ((hB4.out.below hSw hB4.out.lt).at_ (i := 1) (x := .slice la2 1 lc2) rfl) ((hB4.out.below hSw hB4.out.lt).at_ (i := 2) (x := .slice (some ⟨b4, p4, none⟩) 4 rc2) rfl))) hHeld ?_
       refine tQ 3 rfl hHeld ?_
       refine tY 4 rfl b4 (p4 + 201) (g3) (fun wz h => by have hh := (hD4.out.below h).qs.at_ (k := 3) (x := o3) rfl; rw [hg3.out] at hh; exact hh) Tryz.underlying62 hi3.out hHeld ?_
       refine Go.rd (rs := [5, 10, 11]) ?_
       refine tR rfl (fun K hK => ?_) (tR rfl (fun K hK => ?_) (tR rfl (fun K hK => ?_) Go.rn))
       case refine_1 =>
        go_simp
        go_at_call 45
        refine (hac.out (fun b => b < v9.heap.size) awc 3 cwc _ (HT'.out.below (hbw.out.trans (hHeld.mono hbw.out.size))) ((wc.out.imp (K' := fun b => b < v9.heap.size) (fun b hb _ => hb)).below hHeld)).mono ?_
        rintro e wq ⟨awx, cwx, rfl, hWMx, hst⟩


        refine hK.out _ _ (hHeld.trans (hst.mono hHeld.size)) (fun hHeld2 => ?_)
        clear hK K
        refine tQ 6 rfl hHeld2 ?_
        refine tQ 7 rfl hHeld2 ?_
        refine tQ 8 rfl hHeld2 ?_
        refine tQ 9 rfl hHeld2 ?_
        exact Ks1_R10 awx cwx wq (hHeld2) (hWMx.imp (fun b hb hk => by first | trivial | (have h9 := hB10.lt; have h10 := hB11.lt; omega) | (have h9 := hB10.lt; omega) | (have h10 := hB11.lt; omega)))
       case refine_2 =>
        go_simp
        refine hK.out _ _ (hHeld.alloc hHeld.size _) (fun hHeld2 => ?_)
        clear hK K
        try simp only [Act.put, sA, s0, s1]
        generalize hW2 : World.alloc WZ _ = W2
        rw [hW2] at hHeld2
        generalize hq : WZ.heap.size = q10
        have hBn : Blk W2 q10 69 (wtC 0 none 0 0) := by rw [← hW2, ← hq]; exact Blk.new _ _ _
        have hLn := hHeld.size
        rw [hq] at hLn
        clear hW2 hq
        exact Ks0_10_R10 q10 W2 (hHeld2) (hBn) (hLn)
       case refine_3 =>
        go_simp
        refine hK.out _ _ (hHeld.alloc hHeld.size _) (fun hHeld2 => ?_)
        clear hK K
        try simp only [Act.put, sA, s0, s1]
        generalize hW2 : World.alloc WZ _ = W2
        rw [hW2] at hHeld2
        generalize hq : WZ.heap.size = q11
        have hBn : Blk W2 q11 64 (spC Go.Dr.zeroS) := by rw [← hW2, ← hq]; exact Blk.new _ _ _
        have hLn := hHeld.size
        rw [hq] at hLn
        clear hW2 hq
        exact Ks0_11_R10 q11 W2 (hHeld2) (hBn) (hLn)
      case ks0_11_R10 =>
       intro q11 WZ hHeld hB11 hL11
       refine Go.rd (rs := [5, 10]) ?_
       refine tR rfl (fun K hK => ?_) (tR rfl (fun K hK => ?_) Go.rn)
       case refine_1 =>
        go_simp
        go_at_call 45
        refine (hac.out (fun b => b < v9.heap.size) awc 3 cwc _ (HT'.out.below (hbw.out.trans (hHeld.mono hbw.out.size))) ((wc.out.imp (K' := fun b => b < v9.heap.size) (fun b hb _ => hb)).below hHeld)).mono ?_
        rintro e wq ⟨awx, cwx, rfl, hWMx, hst⟩


        refine hK.out _ _ (hHeld.trans (hst.mono hHeld.size)) (fun hHeld2 => ?_)
        clear hK K
        refine tQ 6 rfl hHeld2 ?_
        refine tQ 7 rfl hHeld2 ?_
        refine tQ 8 rfl hHeld2 ?_
        refine tQ 9 rfl hHeld2 ?_
        exact Ks1_11_R10 q11 awx cwx wq (hHeld2) (hB11.below hst hB11.lt) (hL11) (hWMx.imp (fun b hb hk => by first | trivial | (have h9 := hB10.lt; have h10 := hB11.lt; omega) | (have h9 := hB10.lt; omega) | (have h10 := hB11.lt; omega)))
       case refine_2 =>
        go_simp
        refine hK.out _ _ (hHeld.alloc hHeld.size _) (fun hHeld2 => ?_)
        clear hK K
        try simp only [Act.put, sA, s0, s1]
        generalize hW2 : World.alloc WZ _ = W2
        rw [hW2] at hHeld2
        generalize hq : WZ.heap.size = q10
        have hBn : Blk W2 q10 69 (wtC 0 none 0 0) := by rw [← hW2, ← hq]; exact Blk.new _ _ _
        have hLn := hHeld.size
        rw [hq] at hLn
        have hB11' : Blk W2 q11 64 (spC Go.Dr.zeroS) := by rw [← hW2]; exact hB11.alloc _
        have hN11' := hB11.lt
        rw [hq] at hN11'
        clear hW2 hq
        exact Ks0_10_11_R10 q10 q11 W2 (hHeld2) (hBn) (hLn) (hB11') (hL11) ((by omega))
      case ks0_10_R10 =>
       intro q10 WZ hHeld hB10 hL10
       refine Go.rd (rs := [5, 11]) ?_
       refine tR rfl (fun K hK => ?_) (tR rfl (fun K hK => ?_) Go.rn)
       case refine_1 =>
        go_simp
        go_at_call 45
        refine (hac.out (fun b => b < v9.heap.size) awc 3 cwc _ (HT'.out.below (hbw.out.trans (hHeld.mono hbw.out.size))) ((wc.out.imp (K' := fun b => b < v9.heap.size) (fun b hb _ => hb)).below hHeld)).mono ?_
        rintro e wq ⟨awx, cwx, rfl, hWMx, hst⟩


        refine hK.out _ _ (hHeld.trans (hst.mono hHeld.size)) (fun hHeld2 => ?_)
        clear hK K
        refine tQ 6 rfl hHeld2 ?_
        refine tQ 7 rfl hHeld2 ?_
        refine tQ 8 rfl hHeld2 ?_
        refine tQ 9 rfl hHeld2 ?_
        exact Ks1_10_R10 q10 awx cwx wq (hHeld2) (hB10.below hst hB10.lt) (hL10) (hWMx.imp (fun b hb hk => by first | trivial | (have h9 := hB10.lt; have h10 := hB11.lt; omega) | (have h9 := hB10.lt; omega) | (have h10 := hB11.lt; omega)))
       case refine_2 =>
        go_simp
        refine hK.out _ _ (hHeld.alloc hHeld.size _) (fun hHeld2 => ?_)
        clear hK K
        try simp only [Act.put, sA, s0, s1]
        generalize hW2 : World.alloc WZ _ = W2
        rw [hW2] at hHeld2
        generalize hq : WZ.heap.size = q11
        have hBn : Blk W2 q11 64 (spC Go.Dr.zeroS) := by rw [← hW2, ← hq]; exact Blk.new _ _ _
        have hLn := hHeld.size
        rw [hq] at hLn
        have hB10' : Blk W2 q10 69 (wtC 0 none 0 0) := by rw [← hW2]; exact hB10.alloc _
        have hN10' := hB10.lt
        rw [hq] at hN10'
        clear hW2 hq
        exact Ks0_10_11_R10 q10 q11 W2 (hHeld2) (hB10') (hL10) (hBn) (hLn) ((by omega))
      case ks0_10_11_R10 =>
       intro q10 q11 WZ hHeld hB10 hL10 hB11 hL11 hN10_11
       refine tO 5 rfl (fun K hK => ?_)
       go_simp
       go_at_call 45
       refine (hac.out (fun b => b < v9.heap.size) awc 3 cwc _ (HT'.out.below (hbw.out.trans (hHeld.mono hbw.out.size))) ((wc.out.imp (K' := fun b => b < v9.heap.size) (fun b hb _ => hb)).below hHeld)).mono ?_
       rintro e wq ⟨awx, cwx, rfl, hWMx, hst⟩


       refine hK.out _ _ (hHeld.trans (hst.mono hHeld.size)) (fun hHeld2 => ?_)
       clear hK K
       refine tQ 6 rfl hHeld2 ?_
       refine tQ 7 rfl hHeld2 ?_
       refine tQ 8 rfl hHeld2 ?_
       refine tQ 9 rfl hHeld2 ?_
       exact Ks1_10_11_R10 q10 q11 awx cwx wq (hHeld2) (hB10.below hst hB10.lt) (hL10) (hB11.below hst hB11.lt) (hL11) (hN10_11) (hWMx.imp (fun b hb hk => by first | trivial | (have h9 := hB10.lt; have h10 := hB11.lt; omega) | (have h9 := hB10.lt; omega) | (have h10 := hB11.lt; omega)))
      case ks1_R10 =>
       intro awx cwx WZ hHeld hxwx
       refine Go.rd (rs := [10, 11]) ?_
       refine tR rfl (fun K hK => ?_) (tR rfl (fun K hK => ?_) Go.rn)
       case refine_1 =>
        go_simp
        refine hK.out _ _ (hHeld.alloc hHeld.size _) (fun hHeld2 => ?_)
        clear hK K
        try simp only [Act.put, sA, s0, s1]
        generalize hW2 : World.alloc WZ _ = W2
        rw [hW2] at hHeld2
        generalize hq : WZ.heap.size = q10
        have hBn : Blk W2 q10 69 (wtC 0 none 0 0) := by rw [← hW2, ← hq]; exact Blk.new _ _ _
        have hLn := hHeld.size
        rw [hq] at hLn
        have hxwx' : WM (fun b => b ≠ q10) W2 ⟨pq, [r0, r1, r2, o3]⟩ awx 4 cwx := by rw [← hW2]; exact ((hxwx.imp (K' := (fun b => b ≠ q10)) (fun b hb hk => by first | omega | (simp only at hk ⊢; omega) | (show _ ≠ _; omega) | (show _ ∧ _; omega)))).below ((Below.refl _ WZ).alloc (Nat.le_refl _) _)
        clear hW2 hq
        exact Ks1_10_R10 q10 awx cwx W2 (hHeld2) (hBn) (hLn) (hxwx')
       case refine_2 =>
        go_simp
        refine hK.out _ _ (hHeld.alloc hHeld.size _) (fun hHeld2 => ?_)
        clear hK K
        try simp only [Act.put, sA, s0, s1]
        generalize hW2 : World.alloc WZ _ = W2
        rw [hW2] at hHeld2
        generalize hq : WZ.heap.size = q11
        have hBn : Blk W2 q11 64 (spC Go.Dr.zeroS) := by rw [← hW2, ← hq]; exact Blk.new _ _ _
        have hLn := hHeld.size
        rw [hq] at hLn
        have hxwx' : WM (fun b => b ≠ q11) W2 ⟨pq, [r0, r1, r2, o3]⟩ awx 4 cwx := by rw [← hW2]; exact ((hxwx.imp (K' := (fun b => b ≠ q11)) (fun b hb hk => by first | omega | (simp only at hk ⊢; omega) | (show _ ≠ _; omega) | (show _ ∧ _; omega)))).below ((Below.refl _ WZ).alloc (Nat.le_refl _) _)
        clear hW2 hq
        exact Ks1_11_R10 q11 awx cwx W2 (hHeld2) (hBn) (hLn) (hxwx')
      case ks1_11_R10 =>
       intro q11 awx cwx WZ hHeld hB11 hL11 hxwx
       refine tO 10 rfl (fun K hK => ?_)
       go_simp
       refine hK.out _ _ (hHeld.alloc hHeld.size _) (fun hHeld2 => ?_)
       clear hK K
       try simp only [Act.put, sA, s0, s1]
       generalize hW2 : World.alloc WZ _ = W2
       rw [hW2] at hHeld2
       generalize hq : WZ.heap.size = q10
       have hBn : Blk W2 q10 69 (wtC 0 none 0 0) := by rw [← hW2, ← hq]; exact Blk.new _ _ _
       have hLn := hHeld.size
       rw [hq] at hLn
       have hB11' : Blk W2 q11 64 (spC Go.Dr.zeroS) := by rw [← hW2]; exact hB11.alloc _
       have hN11' := hB11.lt
       rw [hq] at hN11'
       have hxwx' : WM (fun b => b ≠ q10 ∧ b ≠ q11) W2 ⟨pq, [r0, r1, r2, o3]⟩ awx 4 cwx := by rw [← hW2]; exact ((hxwx.imp (K' := (fun b => b ≠ q10 ∧ b ≠ q11)) (fun b hb hk => by first | omega | (simp only at hk ⊢; omega) | (show _ ≠ _; omega) | (show _ ∧ _; omega)))).below ((Below.refl _ WZ).alloc (Nat.le_refl _) _)
       clear hW2 hq
       exact Ks1_10_11_R10 q10 q11 awx cwx W2 (hHeld2) (hBn) (hLn) (hB11') (hL11) ((by omega)) (hxwx')
      case ks1_10_R10 =>
       intro q10 awx cwx WZ hHeld hB10 hL10 hxwx
       refine tO 11 rfl (fun K hK => ?_)
       go_simp
       refine hK.out _ _ (hHeld.alloc hHeld.size _) (fun hHeld2 => ?_)
       clear hK K
       try simp only [Act.put, sA, s0, s1]
       generalize hW2 : World.alloc WZ _ = W2
       rw [hW2] at hHeld2
       generalize hq : WZ.heap.size = q11
       have hBn : Blk W2 q11 64 (spC Go.Dr.zeroS) := by rw [← hW2, ← hq]; exact Blk.new _ _ _
       have hLn := hHeld.size
       rw [hq] at hLn
       have hB10' : Blk W2 q10 69 (wtC 0 none 0 0) := by rw [← hW2]; exact hB10.alloc _
       have hN10' := hB10.lt
       rw [hq] at hN10'
       have hxwx' : WM (fun b => b ≠ q10 ∧ b ≠ q11) W2 ⟨pq, [r0, r1, r2, o3]⟩ awx 4 cwx := by rw [← hW2]; exact ((hxwx.imp (K' := (fun b => b ≠ q10 ∧ b ≠ q11)) (fun b hb hk => by first | omega | (simp only at hk ⊢; omega) | (show _ ≠ _; omega) | (show _ ∧ _; omega)))).below ((Below.refl _ WZ).alloc (Nat.le_refl _) _)
       clear hW2 hq
       exact Ks1_10_11_R10 q10 q11 awx cwx W2 (hHeld2) (hB10') (hL10) (hBn) (hLn) ((by omega)) (hxwx')
      case ks1_10_11_R10 =>
       intro q10 q11 awx cwx WZ hHeld hB10 hL10 hB11 hL11 hN10_11 hxwx
       refine Go.rd (rs := [12]) ?_
       refine AllReadyH.cons (o := ⟨none, .store 69 (.tmp 15) (.tmp 99), 0, "law.go:46", #[⟨10, .data⟩, ⟨7, .data⟩, ⟨5, .chain⟩, ⟨0, .phase⟩, ⟨1, .phase⟩, ⟨2, .phase⟩, ⟨3, .phase⟩, ⟨4, .phase⟩, ⟨5, .phase⟩, ⟨6, .phase⟩, ⟨7, .phase⟩, ⟨8, .textOnly .lateStores⟩, ⟨9, .textOnly .lateStores⟩, ⟨10, .phase⟩, ⟨11, .phase⟩], none⟩) rfl (fun K hK => ?_) AllReadyH.nil
       obtain ⟨W3, hQ⟩ := put_row (ty := 69) hB10 (x := wtC pq awx 4 cwx) (rfl) (sizeWt) (wt_one _ _ _ _)
       have hHeld2 := below_grown hHeld hQ.grown hHeld.size hL10
       rw [if_pos (by rfl)]
       refine wp_store_mid 69 _ _ rfl q10 0 (wtC pq awx 4 cwx : List Value).toArray (by rfl) (by rfl) hQ.there hQ.info (by simpa using hQ.one) ?_
       generalize hWq : World.setCells _ _ _ _ = Wa
       obtain rfl : W3 = Wa := by rw [← hWq]; exact hQ.eq
       clear hWq
       refine hK.out _ _ hHeld2 (fun _ => ?_)
       clear hK K
       try simp only [Act.put]
       exact Ks2_10_11_R10 q10 q11 awx cwx W3 (hHeld2) (hQ.blk) (hL10) (hB11.grown hQ.grown (fun e => by injection e with e; exact hN10_11 e.symm)) (hL11) (hN10_11) (hxwx.keep (Keeps.grown hQ.grown (fun b hb => by omega)))
      case ks2_10_11_R10 =>
       intro q10 q11 awx cwx WZ hHeld hB10 hL10 hB11 hL11 hN10_11 hxwx
       refine Go.rd (rs := [13]) ?_
       refine AllReadyH.cons (o := ⟨none, .store 64 (.tmp 16) (.tmp 100), 0, "law.go:46", #[⟨11, .data⟩, ⟨8, .data⟩, ⟨12, .chain⟩, ⟨0, .phase⟩, ⟨1, .phase⟩, ⟨2, .phase⟩, ⟨3, .phase⟩, ⟨4, .phase⟩, ⟨5, .phase⟩, ⟨6, .phase⟩, ⟨7, .phase⟩, ⟨8, .phase⟩, ⟨9, .textOnly .lateStores⟩, ⟨10, .phase⟩, ⟨11, .phase⟩, ⟨12, .phase⟩], none⟩) rfl (fun K hK => ?_) AllReadyH.nil
       obtain ⟨W3, hQ⟩ := put_row (ty := 64) hB11 (x := zS) (hzl.out) (hzo.out) (hz1.out)
       have hHeld2 := below_grown hHeld hQ.grown hHeld.size hL11
       rw [if_pos (by rfl)]
       refine wp_store_mid 64 _ _ rfl q11 0 (zS : List Value).toArray (by rfl) (by rfl) hQ.there hQ.info (by simpa using hQ.one) ?_
       generalize hWq : World.setCells _ _ _ _ = Wa
       obtain rfl : W3 = Wa := by rw [← hWq]; exact hQ.eq
       clear hWq
       refine hK.out _ _ hHeld2 (fun _ => ?_)
       clear hK K
       try simp only [Act.put]
       refine tQ 14 rfl hHeld2 ?_
       refine wpAnyH_done (by kernel_rfl) ?_ _
       exact KfinR10 q10 q11 awx cwx W3 (hHeld2) (hB10.grown hQ.grown (fun e => by injection e with e; exact hN10_11 e)) (hL10) (hQ.blk) (hL11) (hN10_11) (hxwx.keep (Keeps.grown hQ.grown (fun b hb => by omega)))
      case kfinR10 =>
       intro q10a q10b awx cwx v10 hst hBa _ hBb _ _ hWx
       replace hB1 := Lib.hid (hB1.out.below hst hB1.out.lt)
       replace hD1 := Lib.hid (hD1.out.below hst)
       replace hD4 := Lib.hid (hD4.out.below hst)
       replace hB4 := Lib.hid (hB4.out.below hst hB4.out.lt)
       replace hB5 := Lib.hid (hB5.out.below hst hB5.out.lt)
       replace hD5 := Lib.hid (hD5.out.below hst)
       replace hba := Lib.hid (hba.out.below hst hba.out.lt)
       replace wa := Lib.hid (wa.out.below hst)
       replace hbb := Lib.hid (hbb.out.below hst hbb.out.lt)
       replace wb := Lib.hid (wb.out.below hst)
       replace hbc := Lib.hid (hbc.out.below hst hbc.out.lt)
       replace wc := Lib.hid (wc.out.below hst)
       replace hbw := Lib.hid (hbw.out.trans (hst.mono hbw.out.size))
       have hbx := Lib.hid hBa
       have wx : Hid (WM (fun _ => True) v10 ⟨pq, [r0, r1, r2, o3]⟩ awx 4 cwx) := hWx.imp (fun _ _ _ => trivial)
       clear hst hBa hBb hWx hac
       go_upto_region 11 with fail
       have hac := Lib.hid (fun (K0 : Nat → Prop) (a' : Option Addr) (n' c' : Nat) (W : World) hT hM => accept_at (K := K0) hG'.out.a4 (m := 4) rfl ok4.out hg4.out (a := a') (n := n') (c := c') (w := W) hT hM)
       rw [hsS.out] at hac
       refine share (G := ∀ (q10 : Nat) (q11 : Nat) (awy : Option Addr) (cwy : Nat) (WZ : World), (Below v10.heap.size v10 WZ) → (Blk WZ q10 69 (wtC pq awy 4 cwy)) → (v10.heap.size ≤ q10) → (Blk WZ q11 64 (sS)) → (v10.heap.size ≤ q11) → (q10 ≠ q11) → (WM (fun b => b ≠ q10 ∧ b ≠ q11) WZ ⟨pq, [r0, r1, r2, o3]⟩ awy 4 cwy) → (?GfinR11 : Nat → Nat → Option Addr → Nat → World → Prop) q10 q11 awy cwy WZ) ?hfinR11 ?kfinR11
       case' hfinR11 =>
        intro KfinR11
       case' hfinR11 =>
        refine share (G := ∀ (q10 : Nat) (q11 : Nat) (awy : Option Addr) (cwy : Nat) (WZ : World), (Below v10.heap.size v10 WZ) → (Blk WZ q10 69 (wtC pq awy 4 cwy)) → (v10.heap.size ≤ q10) → (Blk WZ q11 64 (spC Go.Dr.zeroS)) → (v10.heap.size ≤ q11) → (q10 ≠ q11) → (WM (fun b => b ≠ q10 ∧ b ≠ q11) WZ ⟨pq, [r0, r1, r2, o3]⟩ awy 4 cwy) → (?Gs2_10_11_R11 : Nat → Nat → Option Addr → Nat → World → Prop) q10 q11 awy cwy WZ) ?hs2_10_11_R11 ?ks2_10_11_R11
       case' hs2_10_11_R11 => intro Ks2_10_11_R11
       case' hs2_10_11_R11 =>
        refine share (G := ∀ (q10 : Nat) (q11 : Nat) (awy : Option Addr) (cwy : Nat) (WZ : World), (Below v10.heap.size v10 WZ) → (Blk WZ q10 69 (wtC 0 none 0 0)) → (v10.heap.size ≤ q10) → (Blk WZ q11 64 (spC Go.Dr.zeroS)) → (v10.heap.size ≤ q11) → (q10 ≠ q11) → (WM (fun b => b ≠ q10 ∧ b ≠ q11) WZ ⟨pq, [r0, r1, r2, o3]⟩ awy 4 cwy) → (?Gs1_10_11_R11 : Nat → Nat → Option Addr → Nat → World → Prop) q10 q11 awy cwy WZ) ?hs1_10_11_R11 ?ks1_10_11_R11
       case' hs1_10_11_R11 => intro Ks1_10_11_R11
       case' hs1_10_11_R11 =>
        refine share (G := ∀ (q10 : Nat) (awy : Option Addr) (cwy : Nat) (WZ : World), (Below v10.heap.size v10 WZ) → (Blk WZ q10 69 (wtC 0 none 0 0)) → (v10.heap.size ≤ q10) → (WM (fun b => b ≠ q10) WZ ⟨pq, [r0, r1, r2, o3]⟩ awy 4 cwy) → (?Gs1_10_R11 : Nat → Option Addr → Nat → World → Prop) q10 awy cwy WZ) ?hs1_10_R11 ?ks1_10_R11
       case' hs1_10_R11 => intro Ks1_10_R11
       case' hs1_10_R11 =>
        refine share (G := ∀ (q11 : Nat) (awy : Option Addr) (cwy : Nat) (WZ : World), (Below v10.heap.size v10 WZ) → (Blk WZ q11 64 (spC Go.Dr.zeroS)) → (v10.heap.size ≤ q11) → (WM (fun b => b ≠ q11) WZ ⟨pq, [r0, r1, r2, o3]⟩ awy 4 cwy) → (?Gs1_11_R11 : Nat → Option Addr → Nat → World → Prop) q11 awy cwy WZ) ?hs1_11_R11 ?ks1_11_R11
       case' hs1_11_R11 => intro Ks1_11_R11
       case' hs1_11_R11 =>
        refine share (G := ∀ (awy : Option Addr) (cwy : Nat) (WZ : World), (Below v10.heap.size v10 WZ) → (WM (fun _ => True) WZ ⟨pq, [r0, r1, r2, o3]⟩ awy 4 cwy) → (?Gs1_R11 : Option Addr → Nat → World → Prop) awy cwy WZ) ?hs1_R11 ?ks1_R11
       case' hs1_R11 => intro Ks1_R11
       case' hs1_R11 =>
        refine share (G := ∀ (q10 : Nat) (q11 : Nat) (WZ : World), (Below v10.heap.size v10 WZ) → (Blk WZ q10 69 (wtC 0 none 0 0)) → (v10.heap.size ≤ q10) → (Blk WZ q11 64 (spC Go.Dr.zeroS)) → (v10.heap.size ≤ q11) → (q10 ≠ q11) → (?Gs0_10_11_R11 : Nat → Nat → World → Prop) q10 q11 WZ) ?hs0_10_11_R11 ?ks0_10_11_R11
       case' hs0_10_11_R11 => intro Ks0_10_11_R11
       case' hs0_10_11_R11 =>
        refine share (G := ∀ (q10 : Nat) (WZ : World), (Below v10.heap.size v10 WZ) → (Blk WZ q10 69 (wtC 0 none 0 0)) → (v10.heap.size ≤ q10) → (?Gs0_10_R11 : Nat → World → Prop) q10 WZ) ?hs0_10_R11 ?ks0_10_R11
       case' hs0_10_R11 => intro Ks0_10_R11
       case' hs0_10_R11 =>
        refine share (G := ∀ (q11 : Nat) (WZ : World), (Below v10.heap.size v10 WZ) → (Blk WZ q11 64 (spC Go.Dr.zeroS)) → (v10.heap.size ≤ q11) → (?Gs0_11_R11 : Nat → World → Prop) q11 WZ) ?hs0_11_R11 ?ks0_11_R11
       case' hs0_11_R11 => intro Ks0_11_R11
       case hs0_11_R11 =>
        refine wp_region_held_drew (S := fun wz => Below v10.heap.size v10 wz) (by kernel_rfl) ((Below.refl _ v10).drew) (fun hHeld => ?_)
        generalize v10.drew = WZ at *
        refine tX 0 rfl (fun wz hSw => And.intro ((hbx.out.below hSw hbx.out.lt).at_ (i := 0) (x := .int .i64 pq) rfl) ((hbx.out.below hSw hbx.out.lt).at_ (i := 1) (x := .slice awx 4 cwx) rfl)) hHeld ?_
        refine tQ 1 rfl hHeld ?_
        refine tX 2 rfl (fun wz hSw => And.intro ((hB5.out.below hSw hB5.out.lt).at_ (i := 0) (x := .int .i64 5) rfl) (And.intro ((hB5.out.below hSw hB5.out.lt).at_ (i := 1) (x := .slice xa 0 xc) rfl) ((hB5.out.below hSw hB5.out.lt).at_ (i := 2) (x := .slice (some ⟨b5, p5, none⟩) 4 yc) rfl))) hHeld ?_
        refine tQ 3 rfl hHeld ?_
        refine tY 4 rfl b5 (p5 + 201) (g4) (fun wz h => by have hh := (hD5.out.below h).qs.at_ (k := 3) (x := s3) rfl; rw [hg4.out] at hh; exact hh) Tryz.underlying62 hi4.out hHeld ?_
        refine Go.rd (rs := [5, 10, 11]) ?_
        refine tR rfl (fun K hK => ?_) (tR rfl (fun K hK => ?_) (tR rfl (fun K hK => ?_) Go.rn))
        case refine_1 =>
         go_simp
         go_at_call 45
         refine (hac.out (fun b => b < v10.heap.size) awx 4 cwx _ (HT'.out.below (hbw.out.trans (hHeld.mono hbw.out.size))) ((wx.out.imp (K' := fun b => b < v10.heap.size) (fun b hb _ => hb)).below hHeld)).mono ?_
         rintro e wq ⟨awy, cwy, rfl, hWMx, hst⟩


         refine hK.out _ _ (hHeld.trans (hst.mono hHeld.size)) (fun hHeld2 => ?_)
         clear hK K
         refine tQ 6 rfl hHeld2 ?_
         refine tQ 7 rfl hHeld2 ?_
         refine tQ 8 rfl hHeld2 ?_
         refine tQ 9 rfl hHeld2 ?_
         exact Ks1_R11 awy cwy wq (hHeld2) (hWMx.imp (fun b hb hk => by first | trivial | (have h9 := hB10.lt; have h10 := hB11.lt; omega) | (have h9 := hB10.lt; omega) | (have h10 := hB11.lt; omega)))
        case refine_2 =>
         go_simp
         refine hK.out _ _ (hHeld.alloc hHeld.size _) (fun hHeld2 => ?_)
         clear hK K
         try simp only [Act.put, sA, s0, s1]
         generalize hW2 : World.alloc WZ _ = W2
         rw [hW2] at hHeld2
         generalize hq : WZ.heap.size = q10
         have hBn : Blk W2 q10 69 (wtC 0 none 0 0) := by rw [← hW2, ← hq]; exact Blk.new _ _ _
         have hLn := hHeld.size
         rw [hq] at hLn
         clear hW2 hq
         exact Ks0_10_R11 q10 W2 (hHeld2) (hBn) (hLn)
        case refine_3 =>
         go_simp
         refine hK.out _ _ (hHeld.alloc hHeld.size _) (fun hHeld2 => ?_)
         clear hK K
         try simp only [Act.put, sA, s0, s1]
         generalize hW2 : World.alloc WZ _ = W2
         rw [hW2] at hHeld2
         generalize hq : WZ.heap.size = q11
         have hBn : Blk W2 q11 64 (spC Go.Dr.zeroS) := by rw [← hW2, ← hq]; exact Blk.new _ _ _
         have hLn := hHeld.size
         rw [hq] at hLn
         clear hW2 hq
         exact Ks0_11_R11 q11 W2 (hHeld2) (hBn) (hLn)
       case ks0_11_R11 =>
        intro q11 WZ hHeld hB11 hL11
        refine Go.rd (rs := [5, 10]) ?_
        refine tR rfl (fun K hK => ?_) (tR rfl (fun K hK => ?_) Go.rn)
        case refine_1 =>
         go_simp
         go_at_call 45
         refine (hac.out (fun b => b < v10.heap.size) awx 4 cwx _ (HT'.out.below (hbw.out.trans (hHeld.mono hbw.out.size))) ((wx.out.imp (K' := fun b => b < v10.heap.size) (fun b hb _ => hb)).below hHeld)).mono ?_
         rintro e wq ⟨awy, cwy, rfl, hWMx, hst⟩


         refine hK.out _ _ (hHeld.trans (hst.mono hHeld.size)) (fun hHeld2 => ?_)
         clear hK K
         refine tQ 6 rfl hHeld2 ?_
         refine tQ 7 rfl hHeld2 ?_
         refine tQ 8 rfl hHeld2 ?_
         refine tQ 9 rfl hHeld2 ?_
         exact Ks1_11_R11 q11 awy cwy wq (hHeld2) (hB11.below hst hB11.lt) (hL11) (hWMx.imp (fun b hb hk => by first | trivial | (have h9 := hB10.lt; have h10 := hB11.lt; omega) | (have h9 := hB10.lt; omega) | (have h10 := hB11.lt; omega)))
        case refine_2 =>
         go_simp
         refine hK.out _ _ (hHeld.alloc hHeld.size _) (fun hHeld2 => ?_)
         clear hK K
         try simp only [Act.put, sA, s0, s1]
         generalize hW2 : World.alloc WZ _ = W2
         rw [hW2] at hHeld2
         generalize hq : WZ.heap.size = q10
         have hBn : Blk W2 q10 69 (wtC 0 none 0 0) := by rw [← hW2, ← hq]; exact Blk.new _ _ _
         have hLn := hHeld.size
         rw [hq] at hLn
         have hB11' : Blk W2 q11 64 (spC Go.Dr.zeroS) := by rw [← hW2]; exact hB11.alloc _
         have hN11' := hB11.lt
         rw [hq] at hN11'
         clear hW2 hq
         exact Ks0_10_11_R11 q10 q11 W2 (hHeld2) (hBn) (hLn) (hB11') (hL11) ((by omega))
       case ks0_10_R11 =>
        intro q10 WZ hHeld hB10 hL10
        refine Go.rd (rs := [5, 11]) ?_
        refine tR rfl (fun K hK => ?_) (tR rfl (fun K hK => ?_) Go.rn)
        case refine_1 =>
         go_simp
         go_at_call 45
         refine (hac.out (fun b => b < v10.heap.size) awx 4 cwx _ (HT'.out.below (hbw.out.trans (hHeld.mono hbw.out.size))) ((wx.out.imp (K' := fun b => b < v10.heap.size) (fun b hb _ => hb)).below hHeld)).mono ?_
         rintro e wq ⟨awy, cwy, rfl, hWMx, hst⟩


         refine hK.out _ _ (hHeld.trans (hst.mono hHeld.size)) (fun hHeld2 => ?_)
         clear hK K
         refine tQ 6 rfl hHeld2 ?_
         refine tQ 7 rfl hHeld2 ?_
         refine tQ 8 rfl hHeld2 ?_
         refine tQ 9 rfl hHeld2 ?_
         exact Ks1_10_R11 q10 awy cwy wq (hHeld2) (hB10.below hst hB10.lt) (hL10) (hWMx.imp (fun b hb hk => by first | trivial | (have h9 := hB10.lt; have h10 := hB11.lt; omega) | (have h9 := hB10.lt; omega) | (have h10 := hB11.lt; omega)))
        case refine_2 =>
         go_simp
         refine hK.out _ _ (hHeld.alloc hHeld.size _) (fun hHeld2 => ?_)
         clear hK K
         try simp only [Act.put, sA, s0, s1]
         generalize hW2 : World.alloc WZ _ = W2
         rw [hW2] at hHeld2
         generalize hq : WZ.heap.size = q11
         have hBn : Blk W2 q11 64 (spC Go.Dr.zeroS) := by rw [← hW2, ← hq]; exact Blk.new _ _ _
         have hLn := hHeld.size
         rw [hq] at hLn
         have hB10' : Blk W2 q10 69 (wtC 0 none 0 0) := by rw [← hW2]; exact hB10.alloc _
         have hN10' := hB10.lt
         rw [hq] at hN10'
         clear hW2 hq
         exact Ks0_10_11_R11 q10 q11 W2 (hHeld2) (hB10') (hL10) (hBn) (hLn) ((by omega))
       case ks0_10_11_R11 =>
        intro q10 q11 WZ hHeld hB10 hL10 hB11 hL11 hN10_11
        refine tO 5 rfl (fun K hK => ?_)
        go_simp
        go_at_call 45
        refine (hac.out (fun b => b < v10.heap.size) awx 4 cwx _ (HT'.out.below (hbw.out.trans (hHeld.mono hbw.out.size))) ((wx.out.imp (K' := fun b => b < v10.heap.size) (fun b hb _ => hb)).below hHeld)).mono ?_
        rintro e wq ⟨awy, cwy, rfl, hWMx, hst⟩


        refine hK.out _ _ (hHeld.trans (hst.mono hHeld.size)) (fun hHeld2 => ?_)
        clear hK K
        refine tQ 6 rfl hHeld2 ?_
        refine tQ 7 rfl hHeld2 ?_
        refine tQ 8 rfl hHeld2 ?_
        refine tQ 9 rfl hHeld2 ?_
        exact Ks1_10_11_R11 q10 q11 awy cwy wq (hHeld2) (hB10.below hst hB10.lt) (hL10) (hB11.below hst hB11.lt) (hL11) (hN10_11) (hWMx.imp (fun b hb hk => by first | trivial | (have h9 := hB10.lt; have h10 := hB11.lt; omega) | (have h9 := hB10.lt; omega) | (have h10 := hB11.lt; omega)))
       case ks1_R11 =>
        intro awy cwy WZ hHeld hxwy
        refine Go.rd (rs := [10, 11]) ?_
        refine tR rfl (fun K hK => ?_) (tR rfl (fun K hK => ?_) Go.rn)
        case refine_1 =>
         go_simp
         refine hK.out _ _ (hHeld.alloc hHeld.size _) (fun hHeld2 => ?_)
         clear hK K
         try simp only [Act.put, sA, s0, s1]
         generalize hW2 : World.alloc WZ _ = W2
         rw [hW2] at hHeld2
         generalize hq : WZ.heap.size = q10
         have hBn : Blk W2 q10 69 (wtC 0 none 0 0) := by rw [← hW2, ← hq]; exact Blk.new _ _ _
         have hLn := hHeld.size
         rw [hq] at hLn
         have hxwy' : WM (fun b => b ≠ q10) W2 ⟨pq, [r0, r1, r2, o3]⟩ awy 4 cwy := by rw [← hW2]; exact ((hxwy.imp (K' := (fun b => b ≠ q10)) (fun b hb hk => by first | omega | (simp only at hk ⊢; omega) | (show _ ≠ _; omega) | (show _ ∧ _; omega)))).below ((Below.refl _ WZ).alloc (Nat.le_refl _) _)
         clear hW2 hq
         exact Ks1_10_R11 q10 awy cwy W2 (hHeld2) (hBn) (hLn) (hxwy')
        case refine_2 =>
         go_simp
         refine hK.out _ _ (hHeld.alloc hHeld.size _) (fun hHeld2 => ?_)
         clear hK K
         try simp only [Act.put, sA, s0, s1]
         generalize hW2 : World.alloc WZ _ = W2
         rw [hW2] at hHeld2
         generalize hq : WZ.heap.size = q11
         have hBn : Blk W2 q11 64 (spC Go.Dr.zeroS) := by rw [← hW2, ← hq]; exact Blk.new _ _ _
         have hLn := hHeld.size
         rw [hq] at hLn
         have hxwy' : WM (fun b => b ≠ q11) W2 ⟨pq, [r0, r1, r2, o3]⟩ awy 4 cwy := by rw [← hW2]; exact ((hxwy.imp (K' := (fun b => b ≠ q11)) (fun b hb hk => by first | omega | (simp only at hk ⊢; omega) | (show _ ≠ _; omega) | (show _ ∧ _; omega)))).below ((Below.refl _ WZ).alloc (Nat.le_refl _) _)
         clear hW2 hq
         exact Ks1_11_R11 q11 awy cwy W2 (hHeld2) (hBn) (hLn) (hxwy')
       case ks1_11_R11 =>
        intro q11 awy cwy WZ hHeld hB11 hL11 hxwy
        refine tO 10 rfl (fun K hK => ?_)
        go_simp
        refine hK.out _ _ (hHeld.alloc hHeld.size _) (fun hHeld2 => ?_)
        clear hK K
        try simp only [Act.put, sA, s0, s1]
        generalize hW2 : World.alloc WZ _ = W2
        rw [hW2] at hHeld2
        generalize hq : WZ.heap.size = q10
        have hBn : Blk W2 q10 69 (wtC 0 none 0 0) := by rw [← hW2, ← hq]; exact Blk.new _ _ _
        have hLn := hHeld.size
        rw [hq] at hLn
        have hB11' : Blk W2 q11 64 (spC Go.Dr.zeroS) := by rw [← hW2]; exact hB11.alloc _
        have hN11' := hB11.lt
        rw [hq] at hN11'
        have hxwy' : WM (fun b => b ≠ q10 ∧ b ≠ q11) W2 ⟨pq, [r0, r1, r2, o3]⟩ awy 4 cwy := by rw [← hW2]; exact ((hxwy.imp (K' := (fun b => b ≠ q10 ∧ b ≠ q11)) (fun b hb hk => by first | omega | (simp only at hk ⊢; omega) | (show _ ≠ _; omega) | (show _ ∧ _; omega)))).below ((Below.refl _ WZ).alloc (Nat.le_refl _) _)
        clear hW2 hq
        exact Ks1_10_11_R11 q10 q11 awy cwy W2 (hHeld2) (hBn) (hLn) (hB11') (hL11) ((by omega)) (hxwy')
       case ks1_10_R11 =>
        intro q10 awy cwy WZ hHeld hB10 hL10 hxwy
        refine tO 11 rfl (fun K hK => ?_)
        go_simp
        refine hK.out _ _ (hHeld.alloc hHeld.size _) (fun hHeld2 => ?_)
        clear hK K
        try simp only [Act.put, sA, s0, s1]
        generalize hW2 : World.alloc WZ _ = W2
        rw [hW2] at hHeld2
        generalize hq : WZ.heap.size = q11
        have hBn : Blk W2 q11 64 (spC Go.Dr.zeroS) := by rw [← hW2, ← hq]; exact Blk.new _ _ _
        have hLn := hHeld.size
        rw [hq] at hLn
        have hB10' : Blk W2 q10 69 (wtC 0 none 0 0) := by rw [← hW2]; exact hB10.alloc _
        have hN10' := hB10.lt
        rw [hq] at hN10'
        have hxwy' : WM (fun b => b ≠ q10 ∧ b ≠ q11) W2 ⟨pq, [r0, r1, r2, o3]⟩ awy 4 cwy := by rw [← hW2]; exact ((hxwy.imp (K' := (fun b => b ≠ q10 ∧ b ≠ q11)) (fun b hb hk => by first | omega | (simp only at hk ⊢; omega) | (show _ ≠ _; omega) | (show _ ∧ _; omega)))).below ((Below.refl _ WZ).alloc (Nat.le_refl _) _)
        clear hW2 hq
        exact Ks1_10_11_R11 q10 q11 awy cwy W2 (hHeld2) (hB10') (hL10) (hBn) (hLn) ((by omega)) (hxwy')
       case ks1_10_11_R11 =>
        intro q10 q11 awy cwy WZ hHeld hB10 hL10 hB11 hL11 hN10_11 hxwy
        refine Go.rd (rs := [12]) ?_
        refine AllReadyH.cons (o := ⟨none, .store 69 (.tmp 18) (.tmp 109), 0, "law.go:47", #[⟨10, .data⟩, ⟨7, .data⟩, ⟨5, .chain⟩, ⟨0, .phase⟩, ⟨1, .phase⟩, ⟨2, .phase⟩, ⟨3, .phase⟩, ⟨4, .phase⟩, ⟨5, .phase⟩, ⟨6, .phase⟩, ⟨7, .phase⟩, ⟨8, .textOnly .lateStores⟩, ⟨9, .textOnly .lateStores⟩, ⟨10, .phase⟩, ⟨11, .phase⟩], none⟩) rfl (fun K hK => ?_) AllReadyH.nil
        obtain ⟨W3, hQ⟩ := put_row (ty := 69) hB10 (x := wtC pq awy 4 cwy) (rfl) (sizeWt) (wt_one _ _ _ _)
        have hHeld2 := below_grown hHeld hQ.grown hHeld.size hL10
        rw [if_pos (by rfl)]
        refine wp_store_mid 69 _ _ rfl q10 0 (wtC pq awy 4 cwy : List Value).toArray (by rfl) (by rfl) hQ.there hQ.info (by simpa using hQ.one) ?_
        generalize hWq : World.setCells _ _ _ _ = Wa
        obtain rfl : W3 = Wa := by rw [← hWq]; exact hQ.eq
        clear hWq
        refine hK.out _ _ hHeld2 (fun _ => ?_)
        clear hK K
        try simp only [Act.put]
        exact Ks2_10_11_R11 q10 q11 awy cwy W3 (hHeld2) (hQ.blk) (hL10) (hB11.grown hQ.grown (fun e => by injection e with e; exact hN10_11 e.symm)) (hL11) (hN10_11) (hxwy.keep (Keeps.grown hQ.grown (fun b hb => by omega)))
       case ks2_10_11_R11 =>
        intro q10 q11 awy cwy WZ hHeld hB10 hL10 hB11 hL11 hN10_11 hxwy
        refine Go.rd (rs := [13]) ?_
        refine AllReadyH.cons (o := ⟨none, .store 64 (.tmp 19) (.tmp 110), 0, "law.go:47", #[⟨11, .data⟩, ⟨8, .data⟩, ⟨12, .chain⟩, ⟨0, .phase⟩, ⟨1, .phase⟩, ⟨2, .phase⟩, ⟨3, .phase⟩, ⟨4, .phase⟩, ⟨5, .phase⟩, ⟨6, .phase⟩, ⟨7, .phase⟩, ⟨8, .phase⟩, ⟨9, .textOnly .lateStores⟩, ⟨10, .phase⟩, ⟨11, .phase⟩, ⟨12, .phase⟩], none⟩) rfl (fun K hK => ?_) AllReadyH.nil
        obtain ⟨W3, hQ⟩ := put_row (ty := 64) hB11 (x := sS) (hsl.out) (hso.out) (hs1.out)
        have hHeld2 := below_grown hHeld hQ.grown hHeld.size hL11
        rw [if_pos (by rfl)]
        refine wp_store_mid 64 _ _ rfl q11 0 (sS : List Value).toArray (by rfl) (by rfl) hQ.there hQ.info (by simpa using hQ.one) ?_
        generalize hWq : World.setCells _ _ _ _ = Wa
        obtain rfl : W3 = Wa := by rw [← hWq]; exact hQ.eq
        clear hWq
        refine hK.out _ _ hHeld2 (fun _ => ?_)
        clear hK K
        try simp only [Act.put]
        refine tQ 14 rfl hHeld2 ?_
        refine wpAnyH_done (by kernel_rfl) ?_ _
        exact KfinR11 q10 q11 awy cwy W3 (hHeld2) (hB10.grown hQ.grown (fun e => by injection e with e; exact hN10_11 e)) (hL10) (hQ.blk) (hL11) (hN10_11) (hxwy.keep (Keeps.grown hQ.grown (fun b hb => by omega)))
       case kfinR11 =>
        intro q11a q11b awy cwy v11 hst hBa _ hBb _ _ hWx
        replace hB1 := Lib.hid (hB1.out.below hst hB1.out.lt)
        replace hD1 := Lib.hid (hD1.out.below hst)
        replace hD4 := Lib.hid (hD4.out.below hst)
        replace hB4 := Lib.hid (hB4.out.below hst hB4.out.lt)
        replace hB5 := Lib.hid (hB5.out.below hst hB5.out.lt)
        replace hD5 := Lib.hid (hD5.out.below hst)
        replace hba := Lib.hid (hba.out.below hst hba.out.lt)
        replace wa := Lib.hid (wa.out.below hst)
        replace hbb := Lib.hid (hbb.out.below hst hbb.out.lt)
        replace wb := Lib.hid (wb.out.below hst)
        replace hbc := Lib.hid (hbc.out.below hst hbc.out.lt)
        replace wc := Lib.hid (wc.out.below hst)
        replace hbx := Lib.hid (hbx.out.below hst hbx.out.lt)
        replace wx := Lib.hid (wx.out.below hst)
        replace hbw := Lib.hid (hbw.out.trans (hst.mono hbw.out.size))
        have hby := Lib.hid hBa
        have wy : Hid (WM (fun _ => True) v11 ⟨pq, [r0, r1, r2, o3]⟩ awy 4 cwy) := hWx.imp (fun _ _ _ => trivial)
        have hbs := Lib.hid hBb
        clear hst hBa hBb hWx hac
        obtain ⟨g5, hg5⟩ : ∃ r, Hid (rC Go.Dr.zeroR = r) := ⟨_, rfl⟩
        have hrz : Hid (∀ W, (Instr.build 62 #[]).run Tryz.prog W = .ok (.agg g5.toArray) W) := fun W => by rw [← hg5.out]; exact root_zero W
        have hac := Lib.hid (fun (W : World) hT hM => accept_at (K := fun _ => True) (Go.Dr.acc_zero 4) (m := 0) rfl okZ hg5.out (a := none) (n := 0) (c := 0) (w := W) hT hM)
        rw [hzS.out] at hac
        go_wp2_with fail
        refine (gnew_any 0 _).mono ?_
        rintro e w12 ⟨rfl, hst⟩
        replace hB1 := Lib.hid (hB1.out.below hst hB1.out.lt)
        replace hD1 := Lib.hid (hD1.out.below hst)
        replace hD4 := Lib.hid (hD4.out.below hst)
        replace hB4 := Lib.hid (hB4.out.below hst hB4.out.lt)
        replace hB5 := Lib.hid (hB5.out.below hst hB5.out.lt)
        replace hD5 := Lib.hid (hD5.out.below hst)
        replace hba := Lib.hid (hba.out.below hst hba.out.lt)
        replace wa := Lib.hid (wa.out.below hst)
        replace hbb := Lib.hid (hbb.out.below hst hbb.out.lt)
        replace wb := Lib.hid (wb.out.below hst)
        replace hbc := Lib.hid (hbc.out.below hst hbc.out.lt)
        replace wc := Lib.hid (wc.out.below hst)
        replace hbx := Lib.hid (hbx.out.below hst hbx.out.lt)
        replace wx := Lib.hid (wx.out.below hst)
        replace hby := Lib.hid (hby.out.below hst hby.out.lt)
        replace wy := Lib.hid (wy.out.below hst)
        replace hbs := Lib.hid (hbs.out.below hst hbs.out.lt)
        replace hbw := Lib.hid (hbw.out.trans (hst.mono hbw.out.size))
        clear hst
        go_wp2_with (first
         | (refine wpList_build_run (by rfl) 62 _ rfl #[] (by simp) (hrz.out _) ?_))
        refine (hac.out _ (HT'.out.below hbw.out) ⟨i64_0, RS.nil0 _ _ _⟩).mono ?_
        rintro e w13 ⟨az, cz, rfl, hWz, hst⟩
        replace hB1 := Lib.hid (hB1.out.below hst hB1.out.lt)
        replace hD1 := Lib.hid (hD1.out.below hst)
        replace hD4 := Lib.hid (hD4.out.below hst)
        replace hB4 := Lib.hid (hB4.out.below hst hB4.out.lt)
        replace hB5 := Lib.hid (hB5.out.below hst hB5.out.lt)
        replace hD5 := Lib.hid (hD5.out.below hst)
        replace hba := Lib.hid (hba.out.below hst hba.out.lt)
        replace wa := Lib.hid (wa.out.below hst)
        replace hbb := Lib.hid (hbb.out.below hst hbb.out.lt)
        replace wb := Lib.hid (wb.out.below hst)
        replace hbc := Lib.hid (hbc.out.below hst hbc.out.lt)
        replace wc := Lib.hid (wc.out.below hst)
        replace hbx := Lib.hid (hbx.out.below hst hbx.out.lt)
        replace wx := Lib.hid (wx.out.below hst)
        replace hby := Lib.hid (hby.out.below hst hby.out.lt)
        replace wy := Lib.hid (wy.out.below hst)
        replace hbs := Lib.hid (hbs.out.below hst hbs.out.lt)
        replace hbw := Lib.hid (hbw.out.trans (hst.mono hbw.out.size))
        clear hst hac hWz hrz
        have al : Below w13.heap.size w13 ((w13.alloc (.cells (wtC 0 none 0 0).toArray 69)).alloc (.cells (spC Go.Dr.zeroS).toArray 64)) := ((Below.refl _ w13).alloc (Nat.le_refl _) _).alloc (by simp) _
        have b21 := (Blk.new w13 69 (wtC 0 none 0 0)).alloc (.cells (spC Go.Dr.zeroS).toArray 64)
        have b22 := Blk.new (w13.alloc (.cells (wtC 0 none 0 0).toArray 69)) 64 (spC Go.Dr.zeroS)
        rw [World.size_alloc] at b22
        obtain ⟨v13a, hP21⟩ : ∃ V, Hid (PutR 69 ((w13.alloc (.cells (wtC 0 none 0 0).toArray 69)).alloc (.cells (spC Go.Dr.zeroS).toArray 64)) V w13.heap.size 69 (wtC Go.Dr.zeroW.pub az 0 cz)) := put_row b21 rfl sizeWt (wt_one _ _ _ _)
        obtain ⟨v13, hP22⟩ : ∃ V, Hid (PutR 64 v13a V (w13.heap.size + 1) 64 zS) := put_row (b22.grown hP21.out.grown (by intro e; injection e; omega)) hzl.out hzo.out hz1.out
        have hst := below_grown (below_grown al hP21.out.grown al.size (Nat.le_refl _)) hP22.out.grown (Nat.le_trans al.size hP21.out.grown.size) (Nat.le_succ _)
        replace hB1 := Lib.hid (hB1.out.below hst hB1.out.lt)
        replace hD1 := Lib.hid (hD1.out.below hst)
        replace hD4 := Lib.hid (hD4.out.below hst)
        replace hB4 := Lib.hid (hB4.out.below hst hB4.out.lt)
        replace hB5 := Lib.hid (hB5.out.below hst hB5.out.lt)
        replace hD5 := Lib.hid (hD5.out.below hst)
        replace hba := Lib.hid (hba.out.below hst hba.out.lt)
        replace wa := Lib.hid (wa.out.below hst)
        replace hbb := Lib.hid (hbb.out.below hst hbb.out.lt)
        replace wb := Lib.hid (wb.out.below hst)
        replace hbc := Lib.hid (hbc.out.below hst hbc.out.lt)
        replace wc := Lib.hid (wc.out.below hst)
        replace hbx := Lib.hid (hbx.out.below hst hbx.out.lt)
        replace wx := Lib.hid (wx.out.below hst)
        replace hby := Lib.hid (hby.out.below hst hby.out.lt)
        replace wy := Lib.hid (wy.out.below hst)
        replace hbs := Lib.hid (hbs.out.below hst hbs.out.lt)
        replace hbw := Lib.hid (hbw.out.trans (hst.mono hbw.out.size))
        clear hst al b21 b22
        go_upto_region 13 with (first
         | (refine wpList_store_mid (by rfl) 69 (.tmp 21) (.tmp 116) (by rfl) w13.heap.size 0 (wtC Go.Dr.zeroW.pub az 0 cz).toArray (by rfl) (by rfl) hP21.out.there hP21.out.info (by simpa using hP21.out.one) ?_
            generalize hWq : World.setCells _ _ _ _ = Wa
            obtain rfl : v13a = Wa := by rw [← hWq]; exact hP21.out.eq
            clear hWq)
             | (refine wpList_store_mid (by rfl) 64 (.tmp 22) (.tmp 117) (by rfl) (w13.heap.size + 1) 0 zS.toArray (by rfl) (by rfl) hP22.out.there hP22.out.info (by simpa using hP22.out.one) ?_
                generalize hWq : World.setCells _ _ _ _ = Wa
                obtain rfl : v13 = Wa := by rw [← hWq]; exact hP22.out.eq
                clear hWq))
        clear hP21 hP22
        go_wp2_with fail
        refine (gnew_any 0 _).mono ?_
        rintro e w14 ⟨rfl, hst⟩
        replace hB1 := Lib.hid (hB1.out.below hst hB1.out.lt)
        replace hD1 := Lib.hid (hD1.out.below hst)
        replace hD4 := Lib.hid (hD4.out.below hst)
        replace hB4 := Lib.hid (hB4.out.below hst hB4.out.lt)
        replace hB5 := Lib.hid (hB5.out.below hst hB5.out.lt)
        replace hD5 := Lib.hid (hD5.out.below hst)
        replace hba := Lib.hid (hba.out.below hst hba.out.lt)
        replace wa := Lib.hid (wa.out.below hst)
        replace hbb := Lib.hid (hbb.out.below hst hbb.out.lt)
        replace wb := Lib.hid (wb.out.below hst)
        replace hbc := Lib.hid (hbc.out.below hst hbc.out.lt)
        replace wc := Lib.hid (wc.out.below hst)
        replace hbx := Lib.hid (hbx.out.below hst hbx.out.lt)
        replace wx := Lib.hid (wx.out.below hst)
        replace hby := Lib.hid (hby.out.below hst hby.out.lt)
        replace wy := Lib.hid (wy.out.below hst)
        replace hbs := Lib.hid (hbs.out.below hst hbs.out.lt)
        replace hbw := Lib.hid (hbw.out.trans (hst.mono hbw.out.size))
        clear hst
        go_wp2_with fail
        refine (gnew_any 0 _).mono ?_
        rintro e w15 ⟨rfl, hst⟩
        replace hB1 := Lib.hid (hB1.out.below hst hB1.out.lt)
        replace hD1 := Lib.hid (hD1.out.below hst)
        replace hD4 := Lib.hid (hD4.out.below hst)
        replace hB4 := Lib.hid (hB4.out.below hst hB4.out.lt)
        replace hB5 := Lib.hid (hB5.out.below hst hB5.out.lt)
        replace hD5 := Lib.hid (hD5.out.below hst)
        replace hba := Lib.hid (hba.out.below hst hba.out.lt)
        replace wa := Lib.hid (wa.out.below hst)
        replace hbb := Lib.hid (hbb.out.below hst hbb.out.lt)
        replace wb := Lib.hid (wb.out.below hst)
        replace hbc := Lib.hid (hbc.out.below hst hbc.out.lt)
        replace wc := Lib.hid (wc.out.below hst)
        replace hbx := Lib.hid (hbx.out.below hst hbx.out.lt)
        replace wx := Lib.hid (wx.out.below hst)
        replace hby := Lib.hid (hby.out.below hst hby.out.lt)
        replace wy := Lib.hid (wy.out.below hst)
        replace hbs := Lib.hid (hbs.out.below hst hbs.out.lt)
        replace hbw := Lib.hid (hbw.out.trans (hst.mono hbw.out.size))
        clear hst
        have hcz := Lib.hid (fun W hT h1 h2 => gcompare_any (fun _ => True) (fun _ => True) ⟨0, []⟩ none 0 0 ⟨0, []⟩ none 0 0 W hT h1 h2)
        unfold CmpPost at hcz
        rw [Go.Dr.cmp_zero] at hcz
        simp only at hcz
        rw [hzS.out] at hcz
        go_wp2_with fail
        refine (hcz.out _ (HT'.out.below hbw.out) ⟨i64_0, RS.nil0 _ _ _⟩ ⟨i64_0, RS.nil0 _ _ _⟩).mono ?_
        rintro e w16 ⟨rfl, hst⟩
        replace hB1 := Lib.hid (hB1.out.below hst hB1.out.lt)
        replace hD1 := Lib.hid (hD1.out.below hst)
        replace hD4 := Lib.hid (hD4.out.below hst)
        replace hB4 := Lib.hid (hB4.out.below hst hB4.out.lt)
        replace hB5 := Lib.hid (hB5.out.below hst hB5.out.lt)
        replace hD5 := Lib.hid (hD5.out.below hst)
        replace hba := Lib.hid (hba.out.below hst hba.out.lt)
        replace wa := Lib.hid (wa.out.below hst)
        replace hbb := Lib.hid (hbb.out.below hst hbb.out.lt)
        replace wb := Lib.hid (wb.out.below hst)
        replace hbc := Lib.hid (hbc.out.below hst hbc.out.lt)
        replace wc := Lib.hid (wc.out.below hst)
        replace hbx := Lib.hid (hbx.out.below hst hbx.out.lt)
        replace wx := Lib.hid (wx.out.below hst)
        replace hby := Lib.hid (hby.out.below hst hby.out.lt)
        replace wy := Lib.hid (wy.out.below hst)
        replace hbs := Lib.hid (hbs.out.below hst hbs.out.lt)
        replace hbw := Lib.hid (hbw.out.trans (hst.mono hbw.out.size))
        clear hst hcz
        obtain ⟨v16, hP⟩ : ∃ V, Hid (PutR 64 (w16.alloc (.cells (spC Go.Dr.zeroS : List Value).toArray 64)) V w16.heap.size 64 (zS)) := put_row (Blk.new w16 64 (spC Go.Dr.zeroS)) hzl.out (hzo.out) (hz1.out)
        have hst := below_grown ((Below.refl _ w16).alloc (Nat.le_refl _) _) hP.out.grown (by simp) (Nat.le_refl _)
        replace hB1 := Lib.hid (hB1.out.below hst hB1.out.lt)
        replace hD1 := Lib.hid (hD1.out.below hst)
        replace hD4 := Lib.hid (hD4.out.below hst)
        replace hB4 := Lib.hid (hB4.out.below hst hB4.out.lt)
        replace hB5 := Lib.hid (hB5.out.below hst hB5.out.lt)
        replace hD5 := Lib.hid (hD5.out.below hst)
        replace hba := Lib.hid (hba.out.below hst hba.out.lt)
        replace wa := Lib.hid (wa.out.below hst)
        replace hbb := Lib.hid (hbb.out.below hst hbb.out.lt)
        replace wb := Lib.hid (wb.out.below hst)
        replace hbc := Lib.hid (hbc.out.below hst hbc.out.lt)
        replace wc := Lib.hid (wc.out.below hst)
        replace hbx := Lib.hid (hbx.out.below hst hbx.out.lt)
        replace wx := Lib.hid (wx.out.below hst)
        replace hby := Lib.hid (hby.out.below hst hby.out.lt)
        replace wy := Lib.hid (wy.out.below hst)
        replace hbs := Lib.hid (hbs.out.below hst hbs.out.lt)
        replace hbw := Lib.hid (hbw.out.trans (hst.mono hbw.out.size))
        clear hst
        have hbz := Lib.hid hP.out.blk
        have y0 := hbc.out.at_ (i := 0) (x := .int .i64 pq) rfl
        have y1 := hbc.out.at_ (i := 1) (x := .slice awc 3 cwc) rfl
        have z2 := hB1.out.at_ (i := 2) (x := .slice (some ⟨b1, p1, none⟩) 3 rc) rfl
        have hsr := Lib.hid (fun W h1 h2 => sameRoots_any (fun _ => True) (fun _ => True) [r0, r1, r2] awc 3 cwc (some ⟨b1, p1, none⟩) rc W h1 h2)
        have hss := Lib.hid (fun W h1 h2 => same36_any (fun _ => True) (fun _ => True) ⟨pq, [r0, r1, r2, o3]⟩ awx 4 cwx awy cwy W h1 h2)
        go_wp2_with (first
         | (refine wpList_store_mid (by rfl) 64 (.tmp 24) (.tmp 123) (by rfl) w16.heap.size 0 (zS).toArray (by rfl) (by rfl) hP.out.there hP.out.info (by simpa using hP.out.one) ?_
            generalize hWq : World.setCells _ _ _ _ = Wa
            obtain rfl : v16 = Wa := by rw [← hWq]; exact hP.out.eq
            clear hWq))
        clear hP y0 y1 z2
        refine (hsr.out _ wc.out.qs hD1.out.qs).mono ?_
        rintro e w17 ⟨rfl, hst⟩
        replace hB1 := Lib.hid (hB1.out.below hst hB1.out.lt)
        replace hD1 := Lib.hid (hD1.out.below hst)
        replace hD4 := Lib.hid (hD4.out.below hst)
        replace hB4 := Lib.hid (hB4.out.below hst hB4.out.lt)
        replace hB5 := Lib.hid (hB5.out.below hst hB5.out.lt)
        replace hD5 := Lib.hid (hD5.out.below hst)
        replace hba := Lib.hid (hba.out.below hst hba.out.lt)
        replace wa := Lib.hid (wa.out.below hst)
        replace hbb := Lib.hid (hbb.out.below hst hbb.out.lt)
        replace wb := Lib.hid (wb.out.below hst)
        replace hbc := Lib.hid (hbc.out.below hst hbc.out.lt)
        replace wc := Lib.hid (wc.out.below hst)
        replace hbx := Lib.hid (hbx.out.below hst hbx.out.lt)
        replace wx := Lib.hid (wx.out.below hst)
        replace hby := Lib.hid (hby.out.below hst hby.out.lt)
        replace wy := Lib.hid (wy.out.below hst)
        replace hbs := Lib.hid (hbs.out.below hst hbs.out.lt)
        replace hbz := Lib.hid (hbz.out.below hst hbz.out.lt)
        replace hbw := Lib.hid (hbw.out.trans (hst.mono hbw.out.size))
        clear hst hsr
        have y0 := hbx.out.at_ (i := 0) (x := .int .i64 pq) rfl
        have y1 := hbx.out.at_ (i := 1) (x := .slice awx 4 cwx) rfl
        have z0 := hby.out.at_ (i := 0) (x := .int .i64 pq) rfl
        have z1 := hby.out.at_ (i := 1) (x := .slice awy 4 cwy) rfl
        go_wp2_with fail
        clear y0 y1 z0 z1
        refine (hss.out _ wx.out wy.out).mono ?_
        rintro e w18 ⟨rfl, hst⟩
        replace hB1 := Lib.hid (hB1.out.below hst hB1.out.lt)
        replace hD1 := Lib.hid (hD1.out.below hst)
        replace hD4 := Lib.hid (hD4.out.below hst)
        replace hB4 := Lib.hid (hB4.out.below hst hB4.out.lt)
        replace hB5 := Lib.hid (hB5.out.below hst hB5.out.lt)
        replace hD5 := Lib.hid (hD5.out.below hst)
        replace hba := Lib.hid (hba.out.below hst hba.out.lt)
        replace wa := Lib.hid (wa.out.below hst)
        replace hbb := Lib.hid (hbb.out.below hst hbb.out.lt)
        replace wb := Lib.hid (wb.out.below hst)
        replace hbc := Lib.hid (hbc.out.below hst hbc.out.lt)
        replace wc := Lib.hid (wc.out.below hst)
        replace hbx := Lib.hid (hbx.out.below hst hbx.out.lt)
        replace wx := Lib.hid (wx.out.below hst)
        replace hby := Lib.hid (hby.out.below hst hby.out.lt)
        replace wy := Lib.hid (wy.out.below hst)
        replace hbs := Lib.hid (hbs.out.below hst hbs.out.lt)
        replace hbz := Lib.hid (hbz.out.below hst hbz.out.lt)
        replace hbw := Lib.hid (hbw.out.trans (hst.mono hbw.out.size))
        clear hst hss
        have hck := Lib.hid (fun W hT h => gchk_any (fun _ => True) ⟨0, []⟩ none 0 0 W hT h)
        have hc0 : chkW 4 ⟨0, []⟩ = 0 := by unfold chkW; rw [if_pos (Go.Dr.wchk_iff.2 (Go.Dr.acc_new 4 0))]
        rw [hc0] at hck
        have hpv1 := Lib.hid (fun W hT => gprove_any pq hpb.out (o3, s3) okS3 W hT)
        rw [hG'.out.p1, hsS.out] at hpv1
        have hpv2 := Lib.hid (fun W hT => gprove_any 0 i64_0 Go.Dr.zeroS okZS W hT)
        rw [Go.Dr.prove_zero, hzS.out] at hpv2
        have hpv3 := Lib.hid (fun W hT => gprove_any pq hpb.out (r0, r0) ⟨ok0.out, ok0.out⟩ W hT)
        have hbd3 := Lib.hid (split_build ok0.out ok0.out)
        obtain ⟨s00, hs00⟩ : ∃ z, Hid (spC (r0, r0) = z) := ⟨_, rfl⟩
        rw [hG'.out.p2, hs00.out] at hpv3
        rw [hs00.out, hg0.out] at hbd3
        have hzr : Hid (∀ W, (Instr.build 64 #[]).run Tryz.prog W = .ok (.agg zS.toArray) W) := fun W => by rw [← hzS.out]; exact split_zero W
        clear hc0
        go_upto_region 16 with fail
        refine wp_region_held_drew (S := fun wz => Below w18.heap.size w18 wz) (by kernel_rfl) ((Below.refl _ w18).drew) (fun hHeld => ?_)
        generalize hWd : w18.drew = Wd at *
        clear hWd
        refine tO 0 rfl (fun K hK => ?_)
        go_simp
        go_at_call 41
        refine (gnew_any 0 _).mono ?_
        rintro e W0 ⟨rfl, hst⟩
        refine hK.out _ _ (hHeld.trans (hst.mono hHeld.size)) (fun hHeld2 => ?_)
        clear hHeld hst
        have hHeld := hHeld2
        clear hHeld2
        clear hK K
        try simp only [Act.put, sA, s0, s1]
        refine tO 1 rfl (fun K hK => ?_)
        go_simp
        go_at_call 43
        refine (hck.out _ (HT'.out.below (hbw.out.trans (hHeld.mono hbw.out.size))) ⟨i64_0, RS.nil0 _ _ _⟩).mono ?_
        rintro e W1 ⟨rfl, hst⟩
        refine hK.out _ _ (hHeld.trans (hst.mono hHeld.size)) (fun hHeld2 => ?_)
        clear hHeld hst
        have hHeld := hHeld2
        clear hHeld2
        clear hK K
        try simp only [Act.put, sA, s0, s1]
        refine tQ 2 rfl hHeld ?_
        refine tQ 3 rfl hHeld ?_
        refine tQ 4 rfl hHeld ?_
        refine tY 5 rfl q11b 0 (sS) (fun wz h => (hbs.out.below h hbs.out.lt).range) Tryz.underlying64 hso.out hHeld ?_
        refine tO 6 rfl (fun K hK => ?_)
        go_simp
        go_at_call 35
        refine (hpv1.out _ (HT'.out.below (hbw.out.trans (hHeld.mono hbw.out.size)))).mono ?_
        rintro e W6 ⟨rfl, hst⟩
        refine hK.out _ _ (hHeld.trans (hst.mono hHeld.size)) (fun hHeld2 => ?_)
        clear hHeld hst
        have hHeld := hHeld2
        clear hHeld2
        clear hK K
        try simp only [Act.put, sA, s0, s1]
        refine tQ 7 rfl hHeld ?_
        refine tQ 8 rfl hHeld ?_
        refine tQ 9 rfl hHeld ?_
        refine tG 10 rfl (hold_build (by rfl) _ _ rfl #[] (by simp) (fun W => hzr.out W)) hHeld ?_
        refine tO 11 rfl (fun K hK => ?_)
        go_simp
        go_at_call 35
        refine (hpv2.out _ (HT'.out.below (hbw.out.trans (hHeld.mono hbw.out.size)))).mono ?_
        rintro e W11 ⟨rfl, hst⟩
        refine hK.out _ _ (hHeld.trans (hst.mono hHeld.size)) (fun hHeld2 => ?_)
        clear hHeld hst
        have hHeld := hHeld2
        clear hHeld2
        clear hK K
        try simp only [Act.put, sA, s0, s1]
        refine tQ 12 rfl hHeld ?_
        refine tQ 13 rfl hHeld ?_
        refine tQ 14 rfl hHeld ?_
        refine tQ 15 rfl hHeld ?_
        refine tQ 16 rfl hHeld ?_
        refine tX 17 rfl (fun wz hSw => (hB1.out.below hSw hB1.out.lt).at_ (i := 2) (x := .slice (some ⟨b1, p1, none⟩) 3 rc) rfl) hHeld ?_
        refine tQ 18 rfl hHeld ?_
        refine tY 19 rfl b1 p1 (g0) (fun wz h => by have hh := (hD1.out.below h).qs.at_ (k := 0) (x := r0) rfl; rw [hg0.out] at hh; exact hh) Tryz.underlying62 hi0.out hHeld ?_
        refine tQ 20 rfl hHeld ?_
        refine tX 21 rfl (fun wz hSw => (hB1.out.below hSw hB1.out.lt).at_ (i := 2) (x := .slice (some ⟨b1, p1, none⟩) 3 rc) rfl) hHeld ?_
        refine tQ 22 rfl hHeld ?_
        refine tY 23 rfl b1 p1 (g0) (fun wz h => by have hh := (hD1.out.below h).qs.at_ (k := 0) (x := r0) rfl; rw [hg0.out] at hh; exact hh) Tryz.underlying62 hi0.out hHeld ?_
        refine tG 24 rfl (hold_build (by rfl) _ _ rfl #[(0, .agg g0.toArray), (1, .agg g0.toArray)] (by simp only [List.map_toArray, List.map_cons, List.map_nil]; rfl) (fun W => hbd3.out W)) hHeld ?_
        refine tO 25 rfl (fun K hK => ?_)
        go_simp
        go_at_call 35
        refine (hpv3.out _ (HT'.out.below (hbw.out.trans (hHeld.mono hbw.out.size)))).mono ?_
        rintro e W25 ⟨rfl, hst⟩
        refine hK.out _ _ (hHeld.trans (hst.mono hHeld.size)) (fun hHeld2 => ?_)
        clear hHeld hst
        have hHeld := hHeld2
        clear hHeld2
        clear hK K
        try simp only [Act.put, sA, s0, s1]
        refine tQ 26 rfl hHeld ?_
        refine tQ 27 rfl hHeld ?_
        refine tG 28 (v := ?_) rfl (Or.inl ⟨by rfl, ?_⟩) hHeld ?_
        rotate_left
        · intro wz hSw
          go_simp
          all_goals (with_reducible rfl)
        try simp only [Act.put, List.setIfInBounds_toArray, List.set_cons_zero]
        refine wpAnyH_done (by kernel_rfl) ?_ _
        have hend := hfin.out _ (hbw.out.trans (hHeld.mono hbw.out.size))
        go_wp2_with fail
        exact hend
end Go.Proofs.YtlpgjdlkjahdgaaGreatDoor
namespace Go.Proofs.YtlpgjdlkjahdgaaGreatDoor
open Go.RowKit Go.Mem
open Go.Dr (Lst Rt Dir Wt)

section
variable {H : Type} {enc : TypeId × Value → H} {W : World}
theorem cellsWt : Tryz.prog.cellsOf 69 = 2 := by kernel_rfl
theorem open_watch {fuel : Nat} {cs : List Value} {x : DataW H × List MemPlace} (h : DataW.trod enc Tryz.prog W 0 (fun _ => true) true fuel 69 cs = some x) : ∃ (V : Wt) (a : Option Addr) (n c : Nat), cs = wtC V.pub a n c ∧ WM (fun _ => True) W V a n c := by
 obtain ⟨xs, n, _, rfl, hl, hlen, hf⟩ := DataW.trod_struct Tryz.underlying69 h
 rw [cellsWt] at hl
 match xs, hlen with
 | [y0, y1], _ =>
  have h0 : DataW.trod enc Tryz.prog W 0 (fun _ => true) true n 3 ((cs.drop 0).take (Tryz.prog.cellsOf 3)) = some y0 := hf 0 _ rfl
  rw [cellsInt] at h0
  have h1 : DataW.trod enc Tryz.prog W 0 (fun _ => true) true n 67 ((cs.drop 1).take (Tryz.prog.cellsOf 67)) = some y1 := hf 1 _ rfl
  rw [cellsRl] at h1
  obtain ⟨p, e0, i0⟩ := open_int1 h0
  obtain ⟨ra, rn, rc, r, e1, hQ⟩ := open_rts h1
  have q2 : cs.drop 2 = [] := List.drop_eq_nil_of_le (by omega)
  have q1 : cs.drop 1 = [.slice ra rn rc] := by rw [drop_parts cs 1 1 2 rfl, e1, q2]; rfl
  have q0 : cs.drop 0 = [.int .i64 p, .slice ra rn rc] := by rw [drop_parts cs 0 1 1 rfl, e0, q1]; rfl
  exact ⟨⟨p, r⟩, ra, rn, rc, q0, i0, hQ⟩
end
end Go.Proofs.YtlpgjdlkjahdgaaGreatDoor
