/- the reference 36: Compare -/
import Derived.Test.YtlpgjdlkjahdgaaGreatDoorAl
import Derived.Test.YtlpgjdlkjahdgaaGreatDoorFw
import Derived.Test.YtlpgjdlkjahdgaaGreatDoorGc
namespace Go.Proofs.YtlpgjdlkjahdgaaGreatDoor
open Go.RowKit Go.Mem
open Go.Dr (Lst Rt Dir Wt)

set_option maxRecDepth 20000 in
set_option maxHeartbeats 16000000 in
theorem r36compare_any (K K2 : Nat → Prop) (V : Wt) (a : Option Addr) (n c : Nat) (U : Wt) (a2 : Option Addr) (n2 c2 : Nat) (w : World) (H : WM K w V a n c) (H2 : WM K2 w U a2 n2 c2) (hnb : n ≤ 100000) :
 Calls Tryz.prog 39 #[.agg (wtC V.pub a n c).toArray, .agg (wtC U.pub a2 n2 c2).toArray] w (CmpPost (Go.Dr.cmpW 4 V U) w) := by
 have H' := Lib.hid H; have H2' := Lib.hid H2
 have hlen2 := Lib.hid H2.len
 have n63 := H2.n63
 obtain ⟨tb, htb⟩ : ∃ tb, Hid (w.heap.size = tb) := ⟨_, rfl⟩
 obtain ⟨ub, hub⟩ : ∃ rb, Hid (tb + 1 = rb) := ⟨_, rfl⟩
 obtain ⟨sb, hsb⟩ : ∃ sb, Hid (ub + 1 = sb) := ⟨_, rfl⟩
 obtain ⟨W0, hW0⟩ : ∃ W, Hid (((w.alloc (.cells (wtC V.pub a n c).toArray 69)).alloc (.cells (wtC U.pub a2 n2 c2).toArray 69)).alloc (.cells (spC Go.Dr.zeroS).toArray 64) = W) := ⟨_, rfl⟩
 have hB0 : Hid (Blk W0 tb 69 (wtC V.pub a n c)) := by rw [← hW0.out, ← htb.out]; exact ((Blk.new w _ (wtC V.pub a n c)).alloc _).alloc _
 have hU0 : Hid (Blk W0 ub 69 (wtC U.pub a2 n2 c2)) := by
  rw [← hW0.out, ← hub.out, ← htb.out]
  have := (Blk.new (w.alloc (.cells (wtC V.pub a n c).toArray 69)) 69 (wtC U.pub a2 n2 c2)).alloc (.cells (spC Go.Dr.zeroS).toArray 64)
  rwa [World.size_alloc] at this
 have hS0 : Hid (Blk W0 sb 64 (spC Go.Dr.zeroS)) := by
  rw [← hW0.out, ← hsb.out, ← hub.out, ← htb.out]
  have := Blk.new ((w.alloc (.cells (wtC V.pub a n c).toArray 69)).alloc (.cells (wtC U.pub a2 n2 c2).toArray 69)) 64 (spC Go.Dr.zeroS)
  rwa [World.size_alloc, World.size_alloc] at this
 have hb0 : Hid (Below w.heap.size w W0) := by rw [← hW0.out]; exact (((Below.refl _ w).alloc (Nat.le_refl _) _).alloc (by simp) _).alloc (by simp; omega) _
 have hwsb : Hid (w.heap.size ≤ sb) := by have := htb.out; have := hub.out; have := hsb.out; show _ ≤ _; omega
 have e2 : tb < ub := by have := hub.out; omega
 have e3 : ub < sb := by have := hsb.out; omega
 obtain ⟨X, hX⟩ : ∃ X, X = CmpPost (Go.Dr.cmpW 4 V U) w := ⟨_, rfl⟩
 have hfin : Hid (∀ y W, Go.Dr.cmpW 4 V U = y → Below w.heap.size w W → X (.returned (.tuple #[.agg (spC y.1).toArray, .bool y.2])) W) := fun y W h1 h2 => by rw [hX, h1]; exact ⟨rfl, h2⟩
 rw [← hX]
 clear hX
 have hzo : Hid ((Tryz.prog.info? 64).map (·.size) = some (spC Go.Dr.zeroS).length) := sizeSp' okZS
 have hz1 := Lib.hid (spC_one Go.Dr.zeroS)
 have hMw : Hid (∀ W, Below w.heap.size w W → WM K W V a n c) := fun W h => H'.out.below h
 have hNw : Hid (∀ W, Below w.heap.size w W → WM K2 W U a2 n2 c2) := fun W h => H2'.out.below h
 have hokU := Lib.hid H2.qs.oks
 have hW0' := hW0.out
 obtain ⟨zS, hzS⟩ : ∃ zS, Hid (spC Go.Dr.zeroS = zS) := ⟨_, rfl⟩
 have hzr : Hid (∀ W, (Instr.build 64 #[]).run Tryz.prog W = .ok (.agg zS.toArray) W) := fun W => by rw [← hzS.out]; exact split_zero W
 rw [hzS.out] at hS0 hzo hz1
 clear H H2 H' H2' hW0
 have hckV := Lib.hid (fun W hM => r36check_any K V a n c W hM)
 have hckU := Lib.hid (fun W hM => r36check_any K2 U a2 n2 c2 W hM)
 have haq := Lib.hid (fun x (hx : OkQ x) W hM => r36accept_any K V a n c x hx W hM hnb)
 obtain ⟨Q1, hQ1⟩ : ∃ q, Go.Dr.wchk 4 V = q := ⟨_, rfl⟩
 obtain ⟨Q2, hQ2⟩ : ∃ q, Go.Dr.wchk 4 U = q := ⟨_, rfl⟩
 unfold chkW at hckV hckU
 rw [hQ1] at hckV
 rw [hQ2] at hckU
 have hcw : Hid (Go.Dr.cmpW 4 V U = if Q1 && Q2 && decide (V.pub = U.pub) then Go.Dr.refCmp 4 V U.rs else (Go.Dr.zeroS, false)) := by show _ = _; rw [Go.Dr.cmpW_ref, hQ1, hQ2]
 clear hQ1 hQ2
 have y0 := hB0.out.at_ (i := 0) (x := .int .i64 V.pub) rfl
 have y1 := hB0.out.at_ (i := 1) (x := .slice a n c) rfl
 go_enter Tryz.func39, Tryz.ntmps39
 go_upto_region 1 with fail
 rw [htb.out, hub.out, hsb.out]
 generalize hWz : World.alloc _ _ = Wz
 obtain rfl : W0 = Wz := by rw [← hWz]; exact hW0'.symm
 clear hWz hW0'
 go_wp2_with fail
 refine (hckV.out _ (hMw.out _ hb0.out)).mono ?_
 rintro e w1 ⟨rfl, hst⟩
 have hb1 := Lib.hid (hb0.out.trans (hst.mono hb0.out.size))
 have hB1 := Lib.hid (hB0.out.below hst hB0.out.lt)
 have hU1 := Lib.hid (hU0.out.below hst hU0.out.lt)
 have hS1 := Lib.hid (hS0.out.below hst hS0.out.lt)
 clear hst hB0 hU0 hS0 hb0 y0 y1 hckV
 cases Q1 with
 | false =>
  have hf2 := Lib.hid (fun W hW => hfin.out (Go.Dr.zeroS, false) W (by rw [hcw.out]; rfl) hW)
  simp only at hf2
  rw [hzS.out] at hf2
  obtain ⟨V9, hP9⟩ := put_row (ty := 64) hS1.out (x := zS) rfl hzo.out hz1.out
  have hb9 := Lib.hid (below_grown hb1.out hP9.grown hb1.out.size hwsb.out)
  have hP9' := Lib.hid hP9
  clear hP9 hfin
  go_wp2_with (first
   | (refine wpList_build_run (by rfl) 64 _ rfl #[] (by simp) (hzr.out _) ?_)
    | (refine wpList_store_mid (by rfl) 64 (.tmp 4) (.tmp 25) (by rfl) sb 0 zS.toArray (by rfl) (by rfl) hP9'.out.there hP9'.out.info (by simpa using hP9'.out.one) ?_
       generalize hWq : World.setCells _ _ _ _ = Wa
       obtain rfl : V9 = Wa := by rw [← hWq]; exact hP9'.out.eq
       clear hWq))
  exact ret_cell_tmp (p := 4) (u := 5) rfl hP9'.out.blk Tryz.underlying64 rfl hzo.out rfl rfl rfl (hf2.out _ hb9.out)
 | true =>
  rw [if_pos rfl]
  have z0 := hU1.out.at_ (i := 0) (x := .int .i64 U.pub) rfl
  have z1 := hU1.out.at_ (i := 1) (x := .slice a2 n2 c2) rfl
  go_wp2_with fail
  refine (hckU.out _ (hNw.out _ hb1.out)).mono ?_
  rintro e w2 ⟨rfl, hst⟩
  have hb2 := Lib.hid (hb1.out.trans (hst.mono hb1.out.size))
  have hB2 := Lib.hid (hB1.out.below hst hB1.out.lt)
  have hU2 := Lib.hid (hU1.out.below hst hU1.out.lt)
  have hS2 := Lib.hid (hS1.out.below hst hS1.out.lt)
  clear hst hB1 hU1 hS1 hb1 z0 z1 hckU
  cases Q2 with
  | false =>
   have hf2 := Lib.hid (fun W hW => hfin.out (Go.Dr.zeroS, false) W (by rw [hcw.out]; rfl) hW)
   simp only at hf2
   rw [hzS.out] at hf2
   obtain ⟨V9, hP9⟩ := put_row (ty := 64) hS2.out (x := zS) rfl hzo.out hz1.out
   have hb9 := Lib.hid (below_grown hb2.out hP9.grown hb2.out.size hwsb.out)
   have hP9' := Lib.hid hP9
   clear hP9 hfin
   go_wp2_with (first
    | (refine wpList_build_run (by rfl) 64 _ rfl #[] (by simp) (hzr.out _) ?_)
     | (refine wpList_store_mid (by rfl) 64 (.tmp 4) (.tmp 25) (by rfl) sb 0 zS.toArray (by rfl) (by rfl) hP9'.out.there hP9'.out.info (by simpa using hP9'.out.one) ?_
        generalize hWq : World.setCells _ _ _ _ = Wa
        obtain rfl : V9 = Wa := by rw [← hWq]; exact hP9'.out.eq
        clear hWq))
   exact ret_cell_tmp (p := 4) (u := 5) rfl hP9'.out.blk Tryz.underlying64 rfl hzo.out rfl rfl rfl (hf2.out _ hb9.out)
  | true =>
   rw [if_pos rfl]
   have y0 := hB2.out.at_ (i := 0) (x := .int .i64 V.pub) rfl
   have z0 := hU2.out.at_ (i := 0) (x := .int .i64 U.pub) rfl
   by_cases hpp : V.pub = U.pub
   rotate_left
   · have hpe : (V.pub == U.pub) = false := by simpa using hpp
     have hpe2 : (V.pub != U.pub) = true := by rw [bne, hpe]; rfl
     have hf2 := Lib.hid (fun W hW => hfin.out (Go.Dr.zeroS, false) W (by rw [hcw.out, decide_eq_false hpp]; rfl) hW)
     simp only at hf2
     rw [hzS.out] at hf2
     obtain ⟨V9, hP9⟩ := put_row (ty := 64) hS2.out (x := zS) rfl hzo.out hz1.out
     have hb9 := Lib.hid (below_grown hb2.out hP9.grown hb2.out.size hwsb.out)
     have hP9' := Lib.hid hP9
     clear hP9 hfin
     go_wp2_with (first
      | (refine wpList_build_run (by rfl) 64 _ rfl #[] (by simp) (hzr.out _) ?_)
       | (refine wpList_store_mid (by rfl) 64 (.tmp 4) (.tmp 25) (by rfl) sb 0 zS.toArray (by rfl) (by rfl) hP9'.out.there hP9'.out.info (by simpa using hP9'.out.one) ?_
          generalize hWq : World.setCells _ _ _ _ = Wa
          obtain rfl : V9 = Wa := by rw [← hWq]; exact hP9'.out.eq
          clear hWq))
     exact ret_cell_tmp (p := 4) (u := 5) rfl hP9'.out.blk Tryz.underlying64 rfl hzo.out rfl rfl rfl (hf2.out _ hb9.out)
   have hpe : (V.pub == U.pub) = true := by simpa using hpp
   have hpe2 : (V.pub != U.pub) = false := by rw [bne, hpe]; rfl
   rw [decide_eq_true hpp] at hcw
   clear hpp
   have hcg : Hid (Go.Dr.cmpW 4 V U = Go.Dr.refCmp 4 V U.rs) := by show _ = _; rw [hcw.out]; rfl
   have z1 := hU2.out.at_ (i := 1) (x := .slice a2 n2 c2) rfl
   clear hcw
   go_wp2_with fail
   clear y0 z0 z1 hpe hpe2
   go_loopw [6] (fun i wr => ∃ k : Nat, k ≤ n2 ∧ i = .int .i64 (k : Int) ∧ Hid (Go.Dr.refCmp 4 V (U.rs.drop k) = Go.Dr.refCmp 4 V U.rs) ∧ Hid (Below w2.heap.size w2 wr)) (fun i _ => n2 - (intOf i).toNat)
   case atStart => exact ⟨0, Nat.zero_le _, rfl, rfl, Below.refl _ _⟩
   case round =>
    obtain ⟨k, hk, rfl, hgo, hbr⟩ := hrel
    have hbw := Lib.hid (hb2.out.trans (hbr.out.mono hb2.out.size))
    have hBr := Lib.hid (hB2.out.below hbr.out hB2.out.lt)
    have hUr := Lib.hid (hU2.out.below hbr.out hU2.out.lt)
    have hSr := Lib.hid (hS2.out.below hbr.out hS2.out.lt)
    have z1 := hUr.out.at_ (i := 1) (x := .slice a2 n2 c2) rfl
    by_cases hlt : k < n2
    · have hkl : k < U.rs.length := by have := hlen2.out; omega
      obtain ⟨x, hx⟩ : ∃ x, U.rs[k]? = some x := ⟨_, List.getElem?_eq_getElem hkl⟩
      have hdrop : U.rs.drop k = x :: U.rs.drop (k + 1) := by rw [List.drop_eq_getElem_cons hkl, (List.getElem?_eq_some_iff.1 hx).2]
      have hgo2 := hgo.out
      rw [hdrop] at hgo2
      rw [Go.Dr.refCmp] at hgo2
      obtain ⟨b, off, rfl, hbl, _, hox, hrg0⟩ := (hNw.out _ hbw.out).qs.cells hx
      have hri : Hid ((Tryz.prog.info? 62).map (·.size) = some (rC x).length) := by show _ = _; rw [rC_length hox]; exact sizeR
      obtain ⟨y, hy⟩ : ∃ y, Hid (Go.Dr.accW 4 V x = y) := ⟨_, rfl⟩
      rw [hy.out] at hgo2
      obtain ⟨Y, C, E⟩ := y
      simp only at hgo2
      obtain ⟨rx, hrx⟩ : ∃ rr, Hid (rC x = rr) := ⟨_, rfl⟩
      obtain ⟨sp, hsp⟩ : ∃ sp, Hid (spC C = sp) := ⟨_, rfl⟩
      have hCk : Hid (OkS C) := by
       have := acc_okR (V := V) (hMw.out _ hbw.out).qs.oks hox
       rw [hy.out] at this
       exact this
      obtain ⟨Y, hY⟩ : ∃ p, Hid (Y.pub = p) := ⟨_, rfl⟩
      have hac : Hid (∀ W, Below w.heap.size w W → Calls Tryz.prog 46 #[.agg (wtC V.pub a n c).toArray, .agg rx.toArray] W (fun e w' => ∃ a' n' c', e = .returned (.tuple #[.agg (wtC Y a' n' c').toArray, .agg sp.toArray, .int .i64 E]) ∧ Below W.heap.size W w')) := fun W hb => by
       rw [← hrx.out, ← hsp.out, ← hY.out]
       refine (haq.out x hox W (hMw.out W hb)).mono ?_
       rw [hy.out]
       rintro e w' ⟨_, a', n', c', rfl, _, hb⟩
       exact ⟨a', n', c', rfl, hb⟩
      have hspl : Hid (sp.length = (spC Go.Dr.zeroS).length) := by show _ = _; rw [← hsp.out, spC_length hCk.out, spC_length okZS]
      have hspz : Hid (sp.length = zS.length) := by show _ = _; rw [← hzS.out]; exact hspl.out
      have hspi : Hid ((Tryz.prog.info? 64).map (·.size) = some sp.length) := by show _ = _; rw [hspl.out, spC_length okZS]; exact sizeSp
      have hsp1 : Hid (∀ u ∈ sp, u.oneCell' = true) := by rw [← hsp.out]; exact spC_one C
      have hrg : Hid (∀ wz, Below wr.heap.size wr wz → wz.rangeAt b (off + k * 67) rx) := by
       rw [← hrx.out]
       exact fun wz h j u hu => (h.cell (p := ⟨b, off + k * 67 + j, none⟩) hbl).trans (hrg0 j u hu)
      rw [hrx.out] at hri
      have k0 : (0 : Int) ≤ (k : Int) := by omega
      have k1 : (k : Int) < (n2 : Int) := by omega
      have hgo3 := Lib.hid hgo2
      have hbl' := Lib.hid hbl
      clear hrg0 hx hkl hgo hgo2 hdrop hox hbl hy hCk hrx hY
      go_wp2_with fail
      clear z1
      refine share (G := ∀ (q11 : Nat) (q12 : Nat) (a5 : Option Addr) (n5 : Nat) (c5 : Nat) (WZ : World), (Below wr.heap.size wr WZ) → (Blk WZ q11 69 (wtC Y a5 n5 c5)) → (wr.heap.size ≤ q11) → (Blk WZ q12 64 (sp)) → (wr.heap.size ≤ q12) → (q11 ≠ q12) → (?GfinR6 : Nat → Nat → Option Addr → Nat → Nat → World → Prop) q11 q12 a5 n5 c5 WZ) ?hfinR6 ?kfinR6
      case' hfinR6 =>
       intro KfinR6
      case' hfinR6 =>
       refine share (G := ∀ (q11 : Nat) (q12 : Nat) (a5 : Option Addr) (n5 : Nat) (c5 : Nat) (WZ : World), (Below wr.heap.size wr WZ) → (Blk WZ q11 69 (wtC Y a5 n5 c5)) → (wr.heap.size ≤ q11) → (Blk WZ q12 64 (spC Go.Dr.zeroS)) → (wr.heap.size ≤ q12) → (q11 ≠ q12) → (?Gs2_11_12_R6 : Nat → Nat → Option Addr → Nat → Nat → World → Prop) q11 q12 a5 n5 c5 WZ) ?hs2_11_12_R6 ?ks2_11_12_R6
      case' hs2_11_12_R6 => intro Ks2_11_12_R6
      case' hs2_11_12_R6 =>
       refine share (G := ∀ (q11 : Nat) (q12 : Nat) (a5 : Option Addr) (n5 : Nat) (c5 : Nat) (WZ : World), (Below wr.heap.size wr WZ) → (Blk WZ q11 69 (wtC 0 none 0 0)) → (wr.heap.size ≤ q11) → (Blk WZ q12 64 (spC Go.Dr.zeroS)) → (wr.heap.size ≤ q12) → (q11 ≠ q12) → (?Gs1_11_12_R6 : Nat → Nat → Option Addr → Nat → Nat → World → Prop) q11 q12 a5 n5 c5 WZ) ?hs1_11_12_R6 ?ks1_11_12_R6
      case' hs1_11_12_R6 => intro Ks1_11_12_R6
      case' hs1_11_12_R6 =>
       refine share (G := ∀ (q11 : Nat) (a5 : Option Addr) (n5 : Nat) (c5 : Nat) (WZ : World), (Below wr.heap.size wr WZ) → (Blk WZ q11 69 (wtC 0 none 0 0)) → (wr.heap.size ≤ q11) → (?Gs1_11_R6 : Nat → Option Addr → Nat → Nat → World → Prop) q11 a5 n5 c5 WZ) ?hs1_11_R6 ?ks1_11_R6
      case' hs1_11_R6 => intro Ks1_11_R6
      case' hs1_11_R6 =>
       refine share (G := ∀ (q12 : Nat) (a5 : Option Addr) (n5 : Nat) (c5 : Nat) (WZ : World), (Below wr.heap.size wr WZ) → (Blk WZ q12 64 (spC Go.Dr.zeroS)) → (wr.heap.size ≤ q12) → (?Gs1_12_R6 : Nat → Option Addr → Nat → Nat → World → Prop) q12 a5 n5 c5 WZ) ?hs1_12_R6 ?ks1_12_R6
      case' hs1_12_R6 => intro Ks1_12_R6
      case' hs1_12_R6 =>
       refine share (G := ∀ (a5 : Option Addr) (n5 : Nat) (c5 : Nat) (WZ : World), (Below wr.heap.size wr WZ) → (?Gs1_R6 : Option Addr → Nat → Nat → World → Prop) a5 n5 c5 WZ) ?hs1_R6 ?ks1_R6
      case' hs1_R6 => intro Ks1_R6
      case' hs1_R6 =>
       refine share (G := ∀ (q11 : Nat) (q12 : Nat) (WZ : World), (Below wr.heap.size wr WZ) → (Blk WZ q11 69 (wtC 0 none 0 0)) → (wr.heap.size ≤ q11) → (Blk WZ q12 64 (spC Go.Dr.zeroS)) → (wr.heap.size ≤ q12) → (q11 ≠ q12) → (?Gs0_11_12_R6 : Nat → Nat → World → Prop) q11 q12 WZ) ?hs0_11_12_R6 ?ks0_11_12_R6
      case' hs0_11_12_R6 => intro Ks0_11_12_R6
      case' hs0_11_12_R6 =>
       refine share (G := ∀ (q11 : Nat) (WZ : World), (Below wr.heap.size wr WZ) → (Blk WZ q11 69 (wtC 0 none 0 0)) → (wr.heap.size ≤ q11) → (?Gs0_11_R6 : Nat → World → Prop) q11 WZ) ?hs0_11_R6 ?ks0_11_R6
      case' hs0_11_R6 => intro Ks0_11_R6
      case' hs0_11_R6 =>
       refine share (G := ∀ (q12 : Nat) (WZ : World), (Below wr.heap.size wr WZ) → (Blk WZ q12 64 (spC Go.Dr.zeroS)) → (wr.heap.size ≤ q12) → (?Gs0_12_R6 : Nat → World → Prop) q12 WZ) ?hs0_12_R6 ?ks0_12_R6
      case' hs0_12_R6 => intro Ks0_12_R6
      case hs0_12_R6 =>
       refine wp_region_held_drew (S := fun wz => Below wr.heap.size wr wz) (by kernel_rfl) ((Below.refl _ wr).drew) (fun hHeld => ?_)
       generalize wr.drew = WZ at *
       refine tX 0 rfl (fun wz hSw => And.intro ((hBr.out.below hSw hBr.out.lt).at_ (i := 0) (x := .int .i64 V.pub) rfl) ((hBr.out.below hSw hBr.out.lt).at_ (i := 1) (x := .slice a n c) rfl)) hHeld ?_
       refine tQ 1 rfl hHeld ?_
       refine tX 2 rfl (fun wz hSw => (hUr.out.below hSw hUr.out.lt).at_ (i := 1) (x := .slice (some ⟨b, off, none⟩) n2 c2) rfl) hHeld ?_
       refine tQ 3 rfl hHeld ?_
       refine tQ 4 rfl hHeld ?_
       refine tY 5 rfl b (off + k * 67) (rx) (fun wz h => hrg.out wz h) Tryz.underlying62 hri.out hHeld ?_
       refine rd (rs := [6, 11, 12]) ?_
       refine tR rfl (fun K hK => ?_) (tR rfl (fun K hK => ?_) (tR rfl (fun K hK => ?_) rn))
       case refine_1 =>
        go_simp
        go_at_call 46
        refine (hac.out _ (hbw.out.trans (hHeld.mono hbw.out.size))).mono ?_
        rintro e wq ⟨a5, n5, c5, rfl, hst⟩


        refine hK.out _ _ (hHeld.trans (hst.mono hHeld.size)) (fun hHeld2 => ?_)
        clear hK K
        try simp only [Act.put, sA, s0, s1]
        refine tQ 7 rfl hHeld2 ?_
        refine tQ 8 rfl hHeld2 ?_
        refine tQ 9 rfl hHeld2 ?_
        refine tQ 10 rfl hHeld2 ?_
        exact Ks1_R6 a5 n5 c5 wq (hHeld2)
       case refine_2 =>
        go_simp
        refine hK.out _ _ (hHeld.alloc hHeld.size _) (fun hHeld2 => ?_)
        clear hK K
        try simp only [Act.put, sA, s0, s1]
        generalize hW2 : World.alloc WZ _ = W2
        rw [hW2] at hHeld2
        generalize hq : WZ.heap.size = q11
        have hBn : Blk W2 q11 69 (wtC 0 none 0 0) := by rw [← hW2, ← hq]; exact Blk.new _ _ _
        have hLn := hHeld.size
        rw [hq] at hLn
        clear hW2 hq
        exact Ks0_11_R6 q11 W2 (hHeld2) (hBn) (hLn)
       case refine_3 =>
        go_simp
        refine hK.out _ _ (hHeld.alloc hHeld.size _) (fun hHeld2 => ?_)
        clear hK K
        try simp only [Act.put, sA, s0, s1]
        generalize hW2 : World.alloc WZ _ = W2
        rw [hW2] at hHeld2
        generalize hq : WZ.heap.size = q12
        have hBn : Blk W2 q12 64 (spC Go.Dr.zeroS) := by rw [← hW2, ← hq]; exact Blk.new _ _ _
        have hLn := hHeld.size
        rw [hq] at hLn
        clear hW2 hq
        exact Ks0_12_R6 q12 W2 (hHeld2) (hBn) (hLn)
      case ks0_12_R6 =>
       intro q12 WZ hHeld hB12 hL12
       refine rd (rs := [6, 11]) ?_
       refine tR rfl (fun K hK => ?_) (tR rfl (fun K hK => ?_) rn)
       case refine_1 =>
        go_simp
        go_at_call 46
        refine (hac.out _ (hbw.out.trans (hHeld.mono hbw.out.size))).mono ?_
        rintro e wq ⟨a5, n5, c5, rfl, hst⟩


        refine hK.out _ _ (hHeld.trans (hst.mono hHeld.size)) (fun hHeld2 => ?_)
        clear hK K
        try simp only [Act.put, sA, s0, s1]
        refine tQ 7 rfl hHeld2 ?_
        refine tQ 8 rfl hHeld2 ?_
        refine tQ 9 rfl hHeld2 ?_
        refine tQ 10 rfl hHeld2 ?_
        exact Ks1_12_R6 q12 a5 n5 c5 wq (hHeld2) (hB12.below hst hB12.lt) (hL12)
       case refine_2 =>
        go_simp
        refine hK.out _ _ (hHeld.alloc hHeld.size _) (fun hHeld2 => ?_)
        clear hK K
        try simp only [Act.put, sA, s0, s1]
        generalize hW2 : World.alloc WZ _ = W2
        rw [hW2] at hHeld2
        generalize hq : WZ.heap.size = q11
        have hBn : Blk W2 q11 69 (wtC 0 none 0 0) := by rw [← hW2, ← hq]; exact Blk.new _ _ _
        have hLn := hHeld.size
        rw [hq] at hLn
        have hB12' : Blk W2 q12 64 (spC Go.Dr.zeroS) := by rw [← hW2]; exact hB12.alloc _
        have hN12' := hB12.lt
        rw [hq] at hN12'
        clear hW2 hq
        exact Ks0_11_12_R6 q11 q12 W2 (hHeld2) (hBn) (hLn) (hB12') (hL12) ((by omega))
      case ks0_11_R6 =>
       intro q11 WZ hHeld hB11 hL11
       refine rd (rs := [6, 12]) ?_
       refine tR rfl (fun K hK => ?_) (tR rfl (fun K hK => ?_) rn)
       case refine_1 =>
        go_simp
        go_at_call 46
        refine (hac.out _ (hbw.out.trans (hHeld.mono hbw.out.size))).mono ?_
        rintro e wq ⟨a5, n5, c5, rfl, hst⟩


        refine hK.out _ _ (hHeld.trans (hst.mono hHeld.size)) (fun hHeld2 => ?_)
        clear hK K
        try simp only [Act.put, sA, s0, s1]
        refine tQ 7 rfl hHeld2 ?_
        refine tQ 8 rfl hHeld2 ?_
        refine tQ 9 rfl hHeld2 ?_
        refine tQ 10 rfl hHeld2 ?_
        exact Ks1_11_R6 q11 a5 n5 c5 wq (hHeld2) (hB11.below hst hB11.lt) (hL11)
       case refine_2 =>
        go_simp
        refine hK.out _ _ (hHeld.alloc hHeld.size _) (fun hHeld2 => ?_)
        clear hK K
        try simp only [Act.put, sA, s0, s1]
        generalize hW2 : World.alloc WZ _ = W2
        rw [hW2] at hHeld2
        generalize hq : WZ.heap.size = q12
        have hBn : Blk W2 q12 64 (spC Go.Dr.zeroS) := by rw [← hW2, ← hq]; exact Blk.new _ _ _
        have hLn := hHeld.size
        rw [hq] at hLn
        have hB11' : Blk W2 q11 69 (wtC 0 none 0 0) := by rw [← hW2]; exact hB11.alloc _
        have hN11' := hB11.lt
        rw [hq] at hN11'
        clear hW2 hq
        exact Ks0_11_12_R6 q11 q12 W2 (hHeld2) (hB11') (hL11) (hBn) (hLn) ((by omega))
      case ks0_11_12_R6 =>
       intro q11 q12 WZ hHeld hB11 hL11 hB12 hL12 hN11_12
       refine tO 6 rfl (fun K hK => ?_)
       go_simp
       go_at_call 46
       refine (hac.out _ (hbw.out.trans (hHeld.mono hbw.out.size))).mono ?_
       rintro e wq ⟨a5, n5, c5, rfl, hst⟩


       refine hK.out _ _ (hHeld.trans (hst.mono hHeld.size)) (fun hHeld2 => ?_)
       clear hK K
       try simp only [Act.put, sA, s0, s1]
       refine tQ 7 rfl hHeld2 ?_
       refine tQ 8 rfl hHeld2 ?_
       refine tQ 9 rfl hHeld2 ?_
       refine tQ 10 rfl hHeld2 ?_
       exact Ks1_11_12_R6 q11 q12 a5 n5 c5 wq (hHeld2) (hB11.below hst hB11.lt) (hL11) (hB12.below hst hB12.lt) (hL12) (hN11_12)
      case ks1_R6 =>
       intro a5 n5 c5 WZ hHeld
       refine rd (rs := [11, 12]) ?_
       refine tR rfl (fun K hK => ?_) (tR rfl (fun K hK => ?_) rn)
       case refine_1 =>
        go_simp
        refine hK.out _ _ (hHeld.alloc hHeld.size _) (fun hHeld2 => ?_)
        clear hK K
        try simp only [Act.put, sA, s0, s1]
        generalize hW2 : World.alloc WZ _ = W2
        rw [hW2] at hHeld2
        generalize hq : WZ.heap.size = q11
        have hBn : Blk W2 q11 69 (wtC 0 none 0 0) := by rw [← hW2, ← hq]; exact Blk.new _ _ _
        have hLn := hHeld.size
        rw [hq] at hLn
        clear hW2 hq
        exact Ks1_11_R6 q11 a5 n5 c5 W2 (hHeld2) (hBn) (hLn)
       case refine_2 =>
        go_simp
        refine hK.out _ _ (hHeld.alloc hHeld.size _) (fun hHeld2 => ?_)
        clear hK K
        try simp only [Act.put, sA, s0, s1]
        generalize hW2 : World.alloc WZ _ = W2
        rw [hW2] at hHeld2
        generalize hq : WZ.heap.size = q12
        have hBn : Blk W2 q12 64 (spC Go.Dr.zeroS) := by rw [← hW2, ← hq]; exact Blk.new _ _ _
        have hLn := hHeld.size
        rw [hq] at hLn
        clear hW2 hq
        exact Ks1_12_R6 q12 a5 n5 c5 W2 (hHeld2) (hBn) (hLn)
      case ks1_12_R6 =>
       intro q12 a5 n5 c5 WZ hHeld hB12 hL12
       refine tO 11 rfl (fun K hK => ?_)
       go_simp
       refine hK.out _ _ (hHeld.alloc hHeld.size _) (fun hHeld2 => ?_)
       clear hK K
       try simp only [Act.put, sA, s0, s1]
       generalize hW2 : World.alloc WZ _ = W2
       rw [hW2] at hHeld2
       generalize hq : WZ.heap.size = q11
       have hBn : Blk W2 q11 69 (wtC 0 none 0 0) := by rw [← hW2, ← hq]; exact Blk.new _ _ _
       have hLn := hHeld.size
       rw [hq] at hLn
       have hB12' : Blk W2 q12 64 (spC Go.Dr.zeroS) := by rw [← hW2]; exact hB12.alloc _
       have hN12' := hB12.lt
       rw [hq] at hN12'
       clear hW2 hq
       exact Ks1_11_12_R6 q11 q12 a5 n5 c5 W2 (hHeld2) (hBn) (hLn) (hB12') (hL12) ((by omega))
      case ks1_11_R6 =>
       intro q11 a5 n5 c5 WZ hHeld hB11 hL11
       refine tO 12 rfl (fun K hK => ?_)
       go_simp
       refine hK.out _ _ (hHeld.alloc hHeld.size _) (fun hHeld2 => ?_)
       clear hK K
       try simp only [Act.put, sA, s0, s1]
       generalize hW2 : World.alloc WZ _ = W2
       rw [hW2] at hHeld2
       generalize hq : WZ.heap.size = q12
       have hBn : Blk W2 q12 64 (spC Go.Dr.zeroS) := by rw [← hW2, ← hq]; exact Blk.new _ _ _
       have hLn := hHeld.size
       rw [hq] at hLn
       have hB11' : Blk W2 q11 69 (wtC 0 none 0 0) := by rw [← hW2]; exact hB11.alloc _
       have hN11' := hB11.lt
       rw [hq] at hN11'
       clear hW2 hq
       exact Ks1_11_12_R6 q11 q12 a5 n5 c5 W2 (hHeld2) (hB11') (hL11) (hBn) (hLn) ((by omega))
      case ks1_11_12_R6 =>
       intro q11 q12 a5 n5 c5 WZ hHeld hB11 hL11 hB12 hL12 hN11_12
       refine rd (rs := [13]) ?_
       refine AllReadyH.cons (o := ⟨none, .store 69 (.tmp 7) (.tmp 41), 0, "ref.go:80", #[⟨11, .data⟩, ⟨8, .data⟩, ⟨6, .chain⟩, ⟨0, .phase⟩, ⟨1, .phase⟩, ⟨2, .phase⟩, ⟨3, .phase⟩, ⟨4, .phase⟩, ⟨5, .phase⟩, ⟨6, .phase⟩, ⟨7, .phase⟩, ⟨8, .phase⟩, ⟨9, .textOnly .lateStores⟩, ⟨10, .textOnly .lateStores⟩, ⟨11, .phase⟩, ⟨12, .phase⟩], none⟩) rfl (fun K hK => ?_) AllReadyH.nil
       obtain ⟨W3, hQ⟩ := put_row (ty := 69) hB11 (x := wtC Y a5 n5 c5) (rfl) (sizeWt) (wt_one _ _ _ _)
       have hHeld2 := below_grown hHeld hQ.grown hHeld.size hL11
       rw [if_pos (by rfl)]
       refine wp_store_mid 69 _ _ rfl q11 0 (wtC Y a5 n5 c5 : List Value).toArray (by rfl) (by rfl) hQ.there hQ.info (by simpa using hQ.one) ?_
       generalize hWq : World.setCells _ _ _ _ = Wa
       obtain rfl : W3 = Wa := by rw [← hWq]; exact hQ.eq
       clear hWq
       refine hK.out _ _ hHeld2 (fun _ => ?_)
       clear hK K
       try simp only [Act.put]
       exact Ks2_11_12_R6 q11 q12 a5 n5 c5 W3 (hHeld2) (hQ.blk) (hL11) (hB12.grown hQ.grown (fun e => by injection e with e; exact hN11_12 e.symm)) (hL12) (hN11_12)
      case ks2_11_12_R6 =>
       intro q11 q12 a5 n5 c5 WZ hHeld hB11 hL11 hB12 hL12 hN11_12
       refine rd (rs := [14]) ?_
       refine AllReadyH.cons (o := ⟨none, .store 64 (.tmp 8) (.tmp 42), 0, "ref.go:80", #[⟨12, .data⟩, ⟨9, .data⟩, ⟨13, .chain⟩, ⟨0, .phase⟩, ⟨1, .phase⟩, ⟨2, .phase⟩, ⟨3, .phase⟩, ⟨4, .phase⟩, ⟨5, .phase⟩, ⟨6, .phase⟩, ⟨7, .phase⟩, ⟨8, .phase⟩, ⟨9, .phase⟩, ⟨10, .textOnly .lateStores⟩, ⟨11, .phase⟩, ⟨12, .phase⟩, ⟨13, .phase⟩], none⟩) rfl (fun K hK => ?_) AllReadyH.nil
       obtain ⟨W3, hQ⟩ := put_row (ty := 64) hB12 (x := sp) (hspl.out) (hspi.out) (hsp1.out)
       have hHeld2 := below_grown hHeld hQ.grown hHeld.size hL12
       rw [if_pos (by rfl)]
       refine wp_store_mid 64 _ _ rfl q12 0 (sp : List Value).toArray (by rfl) (by rfl) hQ.there hQ.info (by simpa using hQ.one) ?_
       generalize hWq : World.setCells _ _ _ _ = Wa
       obtain rfl : W3 = Wa := by rw [← hWq]; exact hQ.eq
       clear hWq
       refine hK.out _ _ hHeld2 (fun _ => ?_)
       clear hK K
       try simp only [Act.put]
       refine tQ 15 rfl hHeld2 ?_
       refine wpAnyH_done (by kernel_rfl) ?_ _
       exact KfinR6 q11 q12 a5 n5 c5 W3 (hHeld2) (hB11.grown hQ.grown (fun e => by injection e with e; exact hN11_12 e)) (hL11) (hQ.blk) (hL12) (hN11_12)
      case kfinR6 =>
       intro q11 q12 a5 n5 c5 w7 hHeld hX11 hL11 hX12 hL12 hN
       have hb8 := Lib.hid (hbr.out.trans (hHeld.mono hbr.out.size))
       have hb8w := Lib.hid (hb2.out.trans (hb8.out.mono hb2.out.size))
       have hS8 := Lib.hid (hS2.out.below hb8.out hS2.out.lt)
       have hA8 := Lib.hid hX12
       clear hHeld hX11 hL11 hX12 hL12 hN hac hrg hspl
       by_cases hE : E = 361
       · have hE' : (E == 361) = true := by simpa using hE
         have hf2 := Lib.hid (fun W hW => hfin.out (C, true) W (by rw [hcg.out, ← hgo3.out, if_pos hE]) hW)
         simp only at hf2
         rw [hsp.out] at hf2
         obtain ⟨V9, hP9⟩ := put_row (ty := 64) hS8.out (x := sp) hspz.out hspi.out hsp1.out
         have hb9 := Lib.hid (below_grown hb8w.out hP9.grown hb8w.out.size hwsb.out)
         have hP9' := Lib.hid hP9
         have hrgA := Lib.hid hA8.out.range
         clear hP9 hfin hgo3 hE
         go_wp2_with (first
          | (refine wpList_load_mid (by rfl) 64 (.tmp 8) (by rfl) q12 0 (by rfl) sp _ hrgA.out Tryz.underlying64 (by rfl) hspi.out ?_)
           | (refine wpList_store_mid (by rfl) 64 (.tmp 4) (.tmp 46) (by rfl) sb 0 sp.toArray (by rfl) (by rfl) hP9'.out.there hP9'.out.info (by simpa using hP9'.out.one) ?_
              generalize hWq : World.setCells _ _ _ _ = Wa
              obtain rfl : V9 = Wa := by rw [← hWq]; exact hP9'.out.eq
              clear hWq))
         exact ret_cell_tmp (p := 4) (u := 5) rfl hP9'.out.blk Tryz.underlying64 rfl hspi.out rfl rfl rfl (hf2.out _ hb9.out)
       · have hE' : (E == 361) = false := by simpa using hE
         have hgo4 : Hid (Go.Dr.refCmp 4 V (U.rs.drop (k + 1)) = Go.Dr.refCmp 4 V U.rs) := by show _ = _; rw [← hgo3.out, if_neg hE]
         clear hgo3 hA8 hS8 hE
         go_wp2_with fail
         go_roundw
         case rel => exact ⟨k + 1, by omega, by go_num, hgo4, hb8⟩
         case measure => simp [intOf]; omega
    · obtain rfl : k = n2 := by omega
      have hgz : Hid (Go.Dr.refCmp 4 V U.rs = (Go.Dr.zeroS, false)) := by show _ = _; rw [← hgo.out, List.drop_of_length_le (by have := hlen2.out; omega)]; rfl
      have hS3 := hSr
      have hb3 := hbw
      clear hgo
      have hf2 := Lib.hid (fun W hW => hfin.out (Go.Dr.zeroS, false) W (by rw [hcg.out, hgz.out]) hW)
      simp only at hf2
      rw [hzS.out] at hf2
      obtain ⟨V9, hP9⟩ := put_row (ty := 64) hS3.out (x := zS) rfl hzo.out hz1.out
      have hb9 := Lib.hid (below_grown hb3.out hP9.grown hb3.out.size hwsb.out)
      have hP9' := Lib.hid hP9
      clear hP9 hfin
      go_wp2_with (first
       | (refine wpList_build_run (by rfl) 64 _ rfl #[] (by simp) (hzr.out _) ?_)
        | (refine wpList_store_mid (by rfl) 64 (.tmp 4) (.tmp 47) (by rfl) sb 0 zS.toArray (by rfl) (by rfl) hP9'.out.there hP9'.out.info (by simpa using hP9'.out.one) ?_
           generalize hWq : World.setCells _ _ _ _ = Wa
           obtain rfl : V9 = Wa := by rw [← hWq]; exact hP9'.out.eq
           clear hWq))
      exact ret_cell_tmp (p := 4) (u := 5) rfl hP9'.out.blk Tryz.underlying64 rfl hzo.out rfl rfl rfl (hf2.out _ hb9.out)
end Go.Proofs.YtlpgjdlkjahdgaaGreatDoor
