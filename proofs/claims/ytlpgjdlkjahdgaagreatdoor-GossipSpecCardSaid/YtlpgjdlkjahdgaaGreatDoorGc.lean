/- gossip.New, Prove; the references' Few, Same of equal watches gossip.Compare law36's open, grown, seen law36's seen the examples of chapter 36, plainly a row's split -/
import Derived.Test.YtlpgjdlkjahdgaaGreatDoorAl
import Derived.Test.YtlpgjdlkjahdgaaGreatDoorGb
import Derived.Test.YtlpgjdlkjahdgaaGreatDoorGq
import Derived.Test.YtlpgjdlkjahdgaaGreatDoorRd
namespace Go.Proofs.YtlpgjdlkjahdgaaGreatDoor
open Go.RowKit Go.Mem
open Go.Dr (Lst Rt Dir Wt)

set_option maxHeartbeats 1000000 in
theorem gnew_any (p : Int) (w : World) : Calls Tryz.prog 41 #[.int .i64 p] w (fun e w' => e = .returned (.agg (wtC p none 0 0).toArray) ∧ Below w.heap.size w w') := by
 go_enter Tryz.func41, Tryz.ntmps41
 go_wp2_with fail
 exact ret_cell (p := 2) rfl (Blk.new w 69 (wtC p none 0 0)) Tryz.underlying69 rfl sizeWt rfl rfl ⟨rfl, (Below.refl _ w).alloc (Nat.le_refl _) _⟩

def few36 (V : Wt) : Bool := decide (V.rs.length ≤ 12)
set_option maxHeartbeats 1000000 in
theorem few36_any (V : Wt) (a : Option Addr) (n c : Nat) (hn : V.rs.length = n) (w : World) :
 Calls Tryz.prog 37 #[.agg (wtC V.pub a n c).toArray] w (RetBo (few36 V) w) := by
 have e : Hid (few36 V = decide ((n : Int) ≤ 12)) := by show _ = _; unfold few36; rw [hn, decide_eq_decide]; omega
 obtain ⟨Q, hQ⟩ : ∃ Q, Hid (few36 V = Q) := ⟨_, rfl⟩
 have eq1 := e.out
 rw [hQ.out] at eq1 ⊢
 subst eq1
 obtain ⟨W0, hW0⟩ : ∃ W, Hid (w.alloc (.cells (wtC V.pub a n c).toArray 69) = W) := ⟨_, rfl⟩
 have hB : Hid (Blk W0 w.heap.size 69 (wtC V.pub a n c)) := by rw [← hW0.out]; exact Blk.new w _ (wtC V.pub a n c)
 have hb : Hid (Below w.heap.size w W0) := by rw [← hW0.out]; exact (Below.refl _ w).alloc (Nat.le_refl _) _
 have y1 := hB.out.at_ (i := 1) (x := .slice a n c) rfl
 clear hn e hQ
 go_enter Tryz.func37, Tryz.ntmps37
 go_upto_region 1 with fail
 rw [hW0.out]
 go_wp2_with fail
 go_ret
 exact ⟨by first | rfl | simp, hb.out⟩

set_option maxRecDepth 20000 in
set_option maxHeartbeats 2000000 in
theorem sameRoots_any (K K2 : Nat → Prop) (l : List Rt) (a : Option Addr) (n c : Nat) (a2 : Option Addr) (c2 : Nat) (w : World) (H : QS K w a n c l) (H2 : QS K2 w a2 n c2 l) :
 Calls Tryz.prog 83 #[.slice a n c, .slice a2 n c2] w (RetBo true w) := by
 have H' := Lib.hid H; have H2' := Lib.hid H2
 have hlen := RS.len H
 have n63 : (n : Int) ≤ 9223372036854775807 := by have := RS.le H; have := RS.max H; omega
 clear H H2
 obtain ⟨X, hX⟩ : ∃ X, X = RetBo true w := ⟨_, rfl⟩
 have hfin : Hid (∀ W, Below w.heap.size w W → X (.returned (.bool true)) W) := fun W h => by rw [hX]; exact ⟨rfl, h⟩
 rw [← hX]
 clear hX
 go_enter Tryz.func83, Tryz.ntmps83
 go_wp2_with fail
 go_loopw [5] (fun i wr => ∃ k : Nat, k ≤ n ∧ i = .int .i64 k ∧ Hid (Below w.heap.size w wr)) (fun i _ => n - (intOf i).toNat)
 case atStart => exact ⟨0, Nat.zero_le _, rfl, Below.refl _ _⟩
 case round =>
  obtain ⟨k, hk, rfl, hb⟩ := hrel
  by_cases hlt : k < n
  · obtain ⟨x, hx⟩ : ∃ x, l[k]? = some x := ⟨_, List.getElem?_eq_getElem (by omega)⟩
    obtain ⟨b1, o1, rfl, _, _, hox, _⟩ := (H'.out.below hb.out).cells hx
    obtain ⟨b2, o2, rfl, _, _, _, _⟩ := (H2'.out.below hb.out).cells hx
    have h1 : Hid (∀ wz, Below wr.heap.size wr wz → wz.rangeAt b1 (o1 + k * 67) (rC x)) := fun wz h => ((H'.out.below hb.out).below h).at_ hx
    have h2 : Hid (∀ wz, Below wr.heap.size wr wz → wz.rangeAt b2 (o2 + k * 67) (rC x)) := fun wz h => ((H2'.out.below hb.out).below h).at_ hx
    have hri : Hid ((Tryz.prog.info? 62).map (·.size) = some (rC x).length) := by show _ = _; rw [rC_length hox]; exact sizeR
    have heq : ∀ W, (Op.equalIn 10000 62 (.agg (rC x).toArray) (.agg (rC x).toArray)).run Tryz.prog W = .ok true W := fun W => by have h := eq_root hox hox W; rwa [Go.Dr.eqR_refl] at h
    obtain ⟨rr, hre⟩ : ∃ rr, Hid (rC x = rr) := ⟨_, rfl⟩
    rw [hre.out] at h1 h2 hri heq
    have k0 : (0 : Int) ≤ (k : Int) := by omega
    have k1 : (k : Int) < (n : Int) := by omega
    clear hx hox
    go_upto_region 6 with fail
    refine wp_region_held_drew (S := fun wz => Below wr.heap.size wr wz) (by kernel_rfl) ((Below.refl _ wr).drew) (fun hHeld => ?_)
    generalize hWd : wr.drew = Wd at *
    clear hWd
    refine tQ 0 rfl hHeld ?_
    refine tQ 1 rfl hHeld ?_
    refine tQ 2 rfl hHeld ?_
    refine tY 3 rfl b1 (o1 + k * 67) (rr) (fun wz h => h1.out wz h) Tryz.underlying62 hri.out hHeld ?_
    refine tQ 4 rfl hHeld ?_
    refine tQ 5 rfl hHeld ?_
    refine tQ 6 rfl hHeld ?_
    refine tY 7 rfl b2 (o2 + k * 67) (rr) (fun wz h => h2.out wz h) Tryz.underlying62 hri.out hHeld ?_
    refine tX 8 rfl (fun wz hSw => heq) hHeld ?_
    refine wpAnyH_done (by kernel_rfl) ?_ _
    have hb2 := Lib.hid (hb.out.trans (hHeld.mono hb.out.size))
    clear hHeld heq
    go_wp2_with fail
    go_roundw
    case rel => exact ⟨k + 1, by omega, by go_num, hb2⟩
    case measure => simp [intOf]; omega
  · obtain rfl : k = n := by omega
    have hend := hfin.out _ hb.out
    go_wp2_with fail
    exact hend

set_option maxRecDepth 20000 in
set_option maxHeartbeats 2000000 in
theorem same36_any (K K2 : Nat → Prop) (V : Wt) (a : Option Addr) (n c : Nat) (a2 : Option Addr) (c2 : Nat) (w : World) (H : WM K w V a n c) (H2 : WM K2 w V a2 n c2) :
 Calls Tryz.prog 40 #[.agg (wtC V.pub a n c).toArray, .agg (wtC V.pub a2 n c2).toArray] w (RetBo true w) := by
 obtain ⟨tb, htb⟩ : ∃ tb, Hid (w.heap.size = tb) := ⟨_, rfl⟩
 obtain ⟨tc, htc⟩ : ∃ tc, Hid (tb + 1 = tc) := ⟨_, rfl⟩
 obtain ⟨W0, hW0⟩ : ∃ W, Hid ((w.alloc (.cells (wtC V.pub a n c).toArray 69)).alloc (.cells (wtC V.pub a2 n c2).toArray 69) = W) := ⟨_, rfl⟩
 have hB : Hid (Blk W0 tb 69 (wtC V.pub a n c)) := by rw [← hW0.out, ← htb.out]; exact (Blk.new w _ (wtC V.pub a n c)).alloc _
 have hC : Hid (Blk W0 tc 69 (wtC V.pub a2 n c2)) := by
  rw [← hW0.out, ← htc.out, ← htb.out]
  have := Blk.new (w.alloc (.cells (wtC V.pub a n c).toArray 69)) 69 (wtC V.pub a2 n c2)
  rwa [World.size_alloc] at this
 have hb : Hid (Below w.heap.size w W0) := by rw [← hW0.out]; exact ((Below.refl _ w).alloc (Nat.le_refl _) _).alloc (by simp) _
 have hsm := Lib.hid (sameRoots_any K K2 V.rs a n c a2 c2 W0 (H.qs.below hb.out) (H2.qs.below hb.out))
 have y0 := hB.out.at_ (i := 0) (x := .int .i64 V.pub) rfl
 have y1 := hB.out.at_ (i := 1) (x := .slice a n c) rfl
 have z0 := hC.out.at_ (i := 0) (x := .int .i64 V.pub) rfl
 have z1 := hC.out.at_ (i := 1) (x := .slice a2 n c2) rfl
 have hpp : (V.pub == V.pub) = true := by simp
 clear H H2 hB hC
 go_enter Tryz.func40, Tryz.ntmps40
 go_upto_region 1 with fail
 rw [htb.out, htc.out]
 generalize hWz : World.alloc _ _ = Wz
 obtain rfl : W0 = Wz := by rw [← hWz]; exact hW0.out.symm
 clear hWz hW0
 go_wp2_with fail
 refine hsm.out.mono ?_
 rintro e w1 ⟨rfl, hb1⟩
 have hend := Lib.hid (hb.out.trans (hb1.mono hb.out.size))
 clear hb1 hsm y0 y1 z0 z1 hb
 go_wp2_with fail
 go_ret
 exact ⟨rfl, hend.out⟩

set_option maxRecDepth 20000 in
set_option maxHeartbeats 8000000 in
theorem gprove_any (pub : Int) (hp : I64 pub) (s : Rt × Rt) (hs : OkS s) (w : World) (HT : Tabs w) :
 Calls Tryz.prog 35 #[.int .i64 pub, .agg (spC s).toArray] w (RetI (Go.Dr.proveS 4 pub s) w) := by
 obtain ⟨A, C⟩ := s
 have ha := hs.a
 have hc := hs.b
 simp only at ha hc
 have ha' := Lib.hid ha; have hc' := Lib.hid hc; have HT' := Lib.hid HT; have hp' := Lib.hid hp
 obtain ⟨tb, htb⟩ : ∃ tb, Hid (w.heap.size = tb) := ⟨_, rfl⟩
 obtain ⟨W0, hW0⟩ : ∃ W, Hid (w.alloc (.cells (spC (A, C)).toArray 64) = W) := ⟨_, rfl⟩
 have hB : Hid (Blk W0 tb 64 (spC (A, C))) := by rw [← hW0.out, ← htb.out]; exact Blk.new w _ (spC (A, C))
 have hb : Hid (Below w.heap.size w W0) := by rw [← hW0.out]; exact (Below.refl _ w).alloc (Nat.le_refl _) _
 have hpa : Hid (∀ (j : Nat) (u : Value), (rC A)[j]? = some u → (spC (A, C))[0 + j]? = some u) := fun j u hj => by
  unfold spC
  rw [Nat.zero_add, List.getElem?_append_left (List.getElem?_eq_some_iff.1 hj).1]
  exact hj
 have hpb : Hid (∀ (j : Nat) (u : Value), (rC C)[j]? = some u → (spC (A, C))[67 + j]? = some u) := fun j u hj => by
  unfold spC
  rw [List.getElem?_append_right (by rw [rC_length ha'.out]; omega), rC_length ha'.out, Nat.add_sub_cancel_left]
  exact hj
 have hia : Hid ((Tryz.prog.info? 62).map (·.size) = some (rC A).length) := by show _ = _; rw [rC_length ha'.out]; exact sizeR
 have hib : Hid ((Tryz.prog.info? 62).map (·.size) = some (rC C).length) := by show _ = _; rw [rC_length hc'.out]; exact sizeR
 have hga : Hid ((Tryz.prog.info? 121).map (·.size) = some (rC A).length) := by show _ = _; rw [rC_length ha'.out]; exact sizeGr
 have hgb : Hid ((Tryz.prog.info? 121).map (·.size) = some (rC C).length) := by show _ = _; rw [rC_length hc'.out]; exact sizeGr
 have hba := Lib.hid (groot_build ha'.out)
 have hbb := Lib.hid (groot_build hc'.out)
 have hoa := Lib.hid (rC_one A)
 have hob := Lib.hid (rC_one C)
 have hla : Hid ((rC A).length = (rC Go.Dr.zeroR).length) := by show _ = _; rw [rC_length ha'.out, rC_length okZ]
 have hlb : Hid ((rC C).length = (rC Go.Dr.zeroR).length) := by show _ = _; rw [rC_length hc'.out, rC_length okZ]
 have hpr1 := Lib.hid (fun W hT => proper_any A ha'.out pub hp'.out W hT)
 have hpr2 := Lib.hid (fun W hT => proper_any C hc'.out pub hp'.out W hT)
 have hct := Lib.hid (fun h1 W hT => contra_any A C ha'.out hc'.out h1 W hT)
 have hno : Hid (Go.Dr.properB 4 pub C = true → 1 ≤ C.no) := fun h => (Go.Dr.proper_no h).1
 obtain ⟨X, hX⟩ : ∃ X, X = RetI (Go.Dr.proveS 4 pub (A, C)) w := ⟨_, rfl⟩
 have hf1 : Hid (∀ W, Below W0.heap.size W0 W → Go.Dr.properB 4 pub A = true → Go.Dr.properB 4 pub C = true → Go.Dr.contraB A C = true → X (.returned (.int .i64 0)) W) := fun W h1 h2 h3 h4 => by
  rw [hX]; exact ⟨by rw [Go.Dr.prove_mk h2 h3 h4], hb.out.trans (h1.mono hb.out.size)⟩
 have hf2 : Hid (∀ W, Below W0.heap.size W0 W → (Go.Dr.properB 4 pub A && Go.Dr.properB 4 pub C && Go.Dr.contraB A C) = false → X (.returned (.int .i64 361)) W) := fun W h1 h2 => by
  rw [hX]; exact ⟨by unfold Go.Dr.proveS Go.Dr.proveB; simp only; rw [h2]; rfl, hb.out.trans (h1.mono hb.out.size)⟩
 have hTw : Hid (∀ W, Below W0.heap.size W0 W → Tabs W) := fun W h => HT'.out.below (hb.out.trans (h.mono hb.out.size))
 rw [← hX]
 clear hX HT hs hp
 obtain ⟨S1, hS1⟩ : ∃ S, Hid (Go.Dr.properB 4 pub A = S) := ⟨_, rfl⟩
 obtain ⟨S2, hS2⟩ : ∃ S, Hid (Go.Dr.properB 4 pub C = S) := ⟨_, rfl⟩
 obtain ⟨S3, hS3⟩ : ∃ S, Hid (Go.Dr.contraB A C = S) := ⟨_, rfl⟩
 rw [hS1.out] at hf1 hf2 hpr1
 rw [hS2.out] at hf1 hf2 hpr2 hno
 rw [hS3.out] at hf1 hf2 hct
 obtain ⟨ra, hra⟩ : ∃ r, Hid (rC A = r) := ⟨_, rfl⟩
 obtain ⟨rb, hrb⟩ : ∃ r, Hid (rC C = r) := ⟨_, rfl⟩
 obtain ⟨sp, hsp⟩ : ∃ r, Hid (spC (A, C) = r) := ⟨_, rfl⟩
 rw [hra.out] at hpa hia hga hba hoa hla hpr1 hct
 rw [hrb.out] at hpb hib hgb hbb hob hlb hpr2 hct
 rw [hsp.out] at hW0 hB hpa hpb ⊢
 clear hsp hra hrb HT' hp' ha hc ha' hc'
 go_enter Tryz.func35, Tryz.ntmps35
 go_upto_region 1 with fail
 rw [hW0.out, htb.out]
 refine share (G := ∀ (q6 : Nat) (q7 : Nat) (WZ : World), (Below W0.heap.size W0 WZ) → (Blk WZ q6 121 (ra)) → (W0.heap.size ≤ q6) → (Blk WZ q7 121 (rb)) → (W0.heap.size ≤ q7) → (q6 ≠ q7) → (?GfinR1 : Nat → Nat → World → Prop) q6 q7 WZ) ?hfinR1 ?kfinR1
 case' hfinR1 =>
  intro KfinR1
 case' hfinR1 =>
  refine share (G := ∀ (q6 : Nat) (q7 : Nat) (WZ : World), (Below W0.heap.size W0 WZ) → (Blk WZ q6 121 (ra)) → (W0.heap.size ≤ q6) → (Blk WZ q7 121 (rC Go.Dr.zeroR)) → (W0.heap.size ≤ q7) → (q6 ≠ q7) → (?Gs1_6_7_R1 : Nat → Nat → World → Prop) q6 q7 WZ) ?hs1_6_7_R1 ?ks1_6_7_R1
 case' hs1_6_7_R1 => intro Ks1_6_7_R1
 case' hs1_6_7_R1 =>
  refine share (G := ∀ (q6 : Nat) (q7 : Nat) (WZ : World), (Below W0.heap.size W0 WZ) → (Blk WZ q6 121 (rC Go.Dr.zeroR)) → (W0.heap.size ≤ q6) → (Blk WZ q7 121 (rC Go.Dr.zeroR)) → (W0.heap.size ≤ q7) → (q6 ≠ q7) → (?Gs0_6_7_R1 : Nat → Nat → World → Prop) q6 q7 WZ) ?hs0_6_7_R1 ?ks0_6_7_R1
 case' hs0_6_7_R1 => intro Ks0_6_7_R1
 case' hs0_6_7_R1 =>
  refine share (G := ∀ (q6 : Nat) (WZ : World), (Below W0.heap.size W0 WZ) → (Blk WZ q6 121 (rC Go.Dr.zeroR)) → (W0.heap.size ≤ q6) → (?Gs0_6_R1 : Nat → World → Prop) q6 WZ) ?hs0_6_R1 ?ks0_6_R1
 case' hs0_6_R1 => intro Ks0_6_R1
 case' hs0_6_R1 =>
  refine share (G := ∀ (q7 : Nat) (WZ : World), (Below W0.heap.size W0 WZ) → (Blk WZ q7 121 (rC Go.Dr.zeroR)) → (W0.heap.size ≤ q7) → (?Gs0_7_R1 : Nat → World → Prop) q7 WZ) ?hs0_7_R1 ?ks0_7_R1
 case' hs0_7_R1 => intro Ks0_7_R1
 case hs0_7_R1 =>
  refine wp_region_held_drew (S := fun wz => Below W0.heap.size W0 wz) (by kernel_rfl) ((Below.refl _ W0).drew) (fun hHeld => ?_)
  generalize W0.drew = WZ at *
  refine tQ 0 rfl hHeld ?_
  refine tY 1 rfl tb 0 (ra) (fun wz h => fun j u hj => by have := (hB.out.below h hB.out.lt).at_ (hpa.out j u hj); exact this) Tryz.underlying62 hia.out hHeld ?_
  refine tG 2 rfl (hold_build (by rfl) _ _ rfl #[(0, .agg ra.toArray)] (by simp only [List.map_toArray, List.map_cons, List.map_nil]; rfl) (fun W => hba.out W)) hHeld ?_
  refine tQ 3 rfl hHeld ?_
  refine tY 4 rfl tb 67 (rb) (fun wz h => fun j u hj => by have := (hB.out.below h hB.out.lt).at_ (hpb.out j u hj); exact this) Tryz.underlying62 hib.out hHeld ?_
  refine tG 5 rfl (hold_build (by rfl) _ _ rfl #[(0, .agg rb.toArray)] (by simp only [List.map_toArray, List.map_cons, List.map_nil]; rfl) (fun W => hbb.out W)) hHeld ?_
  refine Go.rd (rs := [6, 7]) ?_
  refine tR rfl (fun K hK => ?_) (tR rfl (fun K hK => ?_) Go.rn)
  case refine_1 =>
   go_simp
   refine hK.out _ _ (hHeld.alloc hHeld.size _) (fun hHeld2 => ?_)
   clear hK K
   try simp only [Act.put, sA, s0, s1]
   generalize hW2 : World.alloc WZ _ = W2
   rw [hW2] at hHeld2
   generalize hq : WZ.heap.size = q6
   have hBn : Blk W2 q6 121 (rC Go.Dr.zeroR) := by rw [← hW2, ← hq]; exact Blk.new _ _ _
   have hLn := hHeld.size
   rw [hq] at hLn
   clear hW2 hq
   exact Ks0_6_R1 q6 W2 (hHeld2) (hBn) (hLn)
  case refine_2 =>
   go_simp
   refine hK.out _ _ (hHeld.alloc hHeld.size _) (fun hHeld2 => ?_)
   clear hK K
   try simp only [Act.put, sA, s0, s1]
   generalize hW2 : World.alloc WZ _ = W2
   rw [hW2] at hHeld2
   generalize hq : WZ.heap.size = q7
   have hBn : Blk W2 q7 121 (rC Go.Dr.zeroR) := by rw [← hW2, ← hq]; exact Blk.new _ _ _
   have hLn := hHeld.size
   rw [hq] at hLn
   clear hW2 hq
   exact Ks0_7_R1 q7 W2 (hHeld2) (hBn) (hLn)
 case ks0_7_R1 =>
  intro q7 WZ hHeld hB7 hL7
  refine tO 6 rfl (fun K hK => ?_)
  go_simp
  refine hK.out _ _ (hHeld.alloc hHeld.size _) (fun hHeld2 => ?_)
  clear hK K
  try simp only [Act.put, sA, s0, s1]
  generalize hW2 : World.alloc WZ _ = W2
  rw [hW2] at hHeld2
  generalize hq : WZ.heap.size = q6
  have hBn : Blk W2 q6 121 (rC Go.Dr.zeroR) := by rw [← hW2, ← hq]; exact Blk.new _ _ _
  have hLn := hHeld.size
  rw [hq] at hLn
  have hB7' : Blk W2 q7 121 (rC Go.Dr.zeroR) := by rw [← hW2]; exact hB7.alloc _
  have hN7' := hB7.lt
  rw [hq] at hN7'
  clear hW2 hq
  exact Ks0_6_7_R1 q6 q7 W2 (hHeld2) (hBn) (hLn) (hB7') (hL7) ((by omega))
 case ks0_6_R1 =>
  intro q6 WZ hHeld hB6 hL6
  refine tO 7 rfl (fun K hK => ?_)
  go_simp
  refine hK.out _ _ (hHeld.alloc hHeld.size _) (fun hHeld2 => ?_)
  clear hK K
  try simp only [Act.put, sA, s0, s1]
  generalize hW2 : World.alloc WZ _ = W2
  rw [hW2] at hHeld2
  generalize hq : WZ.heap.size = q7
  have hBn : Blk W2 q7 121 (rC Go.Dr.zeroR) := by rw [← hW2, ← hq]; exact Blk.new _ _ _
  have hLn := hHeld.size
  rw [hq] at hLn
  have hB6' : Blk W2 q6 121 (rC Go.Dr.zeroR) := by rw [← hW2]; exact hB6.alloc _
  have hN6' := hB6.lt
  rw [hq] at hN6'
  clear hW2 hq
  exact Ks0_6_7_R1 q6 q7 W2 (hHeld2) (hB6') (hL6) (hBn) (hLn) ((by omega))
 case ks0_6_7_R1 =>
  intro q6 q7 WZ hHeld hB6 hL6 hB7 hL7 hN6_7
  refine Go.rd (rs := [8]) ?_
  refine AllReadyH.cons (o := ⟨none, .store 121 (.tmp 5) (.tmp 9), 0, "gossip.go:98", #[⟨6, .data⟩, ⟨2, .data⟩, ⟨0, .phase⟩, ⟨1, .phase⟩, ⟨2, .phase⟩, ⟨3, .textOnly .lateStores⟩, ⟨4, .textOnly .lateStores⟩, ⟨5, .textOnly .lateStores⟩, ⟨6, .phase⟩, ⟨7, .phase⟩], none⟩) rfl (fun K hK => ?_) AllReadyH.nil
  obtain ⟨W3, hQ⟩ := put_row (ty := 121) hB6 (x := ra) (hla.out) (hga.out) (hoa.out)
  have hHeld2 := below_grown hHeld hQ.grown hHeld.size hL6
  rw [if_pos (by rfl)]
  refine wp_store_mid 121 _ _ rfl q6 0 (ra : List Value).toArray (by rfl) (by rfl) hQ.there hQ.info (by simpa using hQ.one) ?_
  generalize hWq : World.setCells _ _ _ _ = Wa
  obtain rfl : W3 = Wa := by rw [← hWq]; exact hQ.eq
  clear hWq
  refine hK.out _ _ hHeld2 (fun _ => ?_)
  clear hK K
  try simp only [Act.put]
  exact Ks1_6_7_R1 q6 q7 W3 (hHeld2) (hQ.blk) (hL6) (hB7.grown hQ.grown (fun e => by injection e with e; exact hN6_7 e.symm)) (hL7) (hN6_7)
 case ks1_6_7_R1 =>
  intro q6 q7 WZ hHeld hB6 hL6 hB7 hL7 hN6_7
  refine Go.rd (rs := [9]) ?_
  refine AllReadyH.cons (o := ⟨none, .store 121 (.tmp 6) (.tmp 12), 0, "gossip.go:98", #[⟨7, .data⟩, ⟨5, .data⟩, ⟨8, .chain⟩, ⟨0, .phase⟩, ⟨1, .phase⟩, ⟨2, .phase⟩, ⟨3, .phase⟩, ⟨4, .phase⟩, ⟨5, .phase⟩, ⟨6, .phase⟩, ⟨7, .phase⟩, ⟨8, .phase⟩], none⟩) rfl (fun K hK => ?_) AllReadyH.nil
  obtain ⟨W3, hQ⟩ := put_row (ty := 121) hB7 (x := rb) (hlb.out) (hgb.out) (hob.out)
  have hHeld2 := below_grown hHeld hQ.grown hHeld.size hL7
  rw [if_pos (by rfl)]
  refine wp_store_mid 121 _ _ rfl q7 0 (rb : List Value).toArray (by rfl) (by rfl) hQ.there hQ.info (by simpa using hQ.one) ?_
  generalize hWq : World.setCells _ _ _ _ = Wa
  obtain rfl : W3 = Wa := by rw [← hWq]; exact hQ.eq
  clear hWq
  refine hK.out _ _ hHeld2 (fun _ => ?_)
  clear hK K
  try simp only [Act.put]
  refine wpAnyH_done (by kernel_rfl) ?_ _
  exact KfinR1 q6 q7 W3 (hHeld2) (hB6.grown hQ.grown (fun e => by injection e with e; exact hN6_7 e)) (hL6) (hQ.blk) (hL7) (hN6_7)
 case kfinR1 =>
  intro q6 q7 V hHeld hq6 hL6 hq7 hL7 hN
  have hb1 := Lib.hid hHeld
  have hA1 := Lib.hid hq6
  have hC1 := Lib.hid hq7
  clear hHeld hq6 hq7 hL6 hL7 hN
  have hrA := Lib.hid hA1.out.range
  go_wp2_with (first
   | (refine wpList_load_mid (by rfl) 121 (.tmp 5) (by rfl) q6 0 (by rfl) ra _ hrA.out Tryz.underlying121 (by rfl) hga.out ?_))
  refine (hpr1.out _ (hTw.out _ hb1.out)).mono ?_
  rintro e w2 ⟨rfl, hst⟩
  have hb2 := Lib.hid (hb1.out.trans (hst.mono hb1.out.size))
  have hA2 := Lib.hid (hA1.out.below hst hA1.out.lt)
  have hC2 := Lib.hid (hC1.out.below hst hC1.out.lt)
  clear hst hrA hb1 hA1 hC1
  cases S1 with
  | false =>
   have hend := Lib.hid (hf2.out _ hb2.out rfl)
   clear hf1 hf2
   go_wp2_with fail
   exact hend.out
  | true =>
   have hrC := Lib.hid hC2.out.range
   go_wp2_with (first
    | (refine wpList_load_gd (by rfl) 121 (.tmp 6) (by rfl) q7 0 (by rfl) rb _ hrC.out Tryz.underlying121 (by rfl) hgb.out ?_))
   refine (hpr2.out _ (hTw.out _ hb2.out)).mono ?_
   rintro e w3 ⟨rfl, hst⟩
   have hb3 := Lib.hid (hb2.out.trans (hst.mono hb2.out.size))
   have hA3 := Lib.hid (hA2.out.below hst hA2.out.lt)
   have hC3 := Lib.hid (hC2.out.below hst hC2.out.lt)
   clear hst hrC hb2 hA2 hC2
   cases S2 with
   | false =>
    have hend := Lib.hid (hf2.out _ hb3.out rfl)
    clear hf1 hf2
    go_wp2_with fail
    exact hend.out
   | true =>
    have hrA := Lib.hid hA3.out.range
    have hrC := Lib.hid hC3.out.range
    have hcc := Lib.hid (hct.out (hno.out rfl))
    go_wp2_with (first
     | (refine wpList_load_gd (by rfl) 121 (.tmp 5) (by rfl) q6 0 (by rfl) ra _ hrA.out Tryz.underlying121 (by rfl) hga.out ?_)
      | (refine wpList_load_gd (by rfl) 121 (.tmp 6) (by rfl) q7 0 (by rfl) rb _ hrC.out Tryz.underlying121 (by rfl) hgb.out ?_))
    refine (hcc.out _ (hTw.out _ hb3.out)).mono ?_
    rintro e w4 ⟨rfl, hst⟩
    have hb4 := Lib.hid (hb3.out.trans (hst.mono hb3.out.size))
    clear hst hrA hrC hb3 hA3 hC3
    cases S3 with
    | false =>
     have hend := Lib.hid (hf2.out _ hb4.out rfl)
     clear hf1 hf2
     go_wp2_with fail
     exact hend.out
    | true =>
     have hend := Lib.hid (hf1.out _ hb4.out (by trivial) (by trivial) (by trivial))
     clear hf1 hf2
     go_wp2_with fail
     exact hend.out
end Go.Proofs.YtlpgjdlkjahdgaaGreatDoor
namespace Go.Proofs.YtlpgjdlkjahdgaaGreatDoor
open Go.RowKit Go.Mem
open Go.Dr (Lst Rt Dir Wt)

theorem cmpGo_ok {l : List Rt} (h : ∀ x ∈ l, OkQ x) : ∀ {m : List Rt}, (∀ x ∈ m, OkQ x) → OkS (Go.Dr.cmpGo l m).1
 | [], _ => okZS
 | r :: t, hm => by
  unfold Go.Dr.cmpGo
  split
  · exact confl_ok' h (hm r (by simp))
  · exact cmpGo_ok h (fun x hx => hm x (by simp [hx]))
theorem cmpW_ok {V U : Wt} (h : ∀ x ∈ V.rs, OkQ x) (hu : ∀ x ∈ U.rs, OkQ x) : OkS (Go.Dr.cmpW 4 V U).1 := by
 unfold Go.Dr.cmpW
 split
 · exact cmpGo_ok h hu
 · exact okZS
def CmpPost (y : (Rt × Rt) × Bool) (w : World) (e : Ending) (w' : World) : Prop := e = .returned (.tuple #[.agg (spC y.1).toArray, .bool y.2]) ∧ Below w.heap.size w w'

set_option maxRecDepth 20000 in
set_option maxHeartbeats 16000000 in
theorem gcompare_any (K K2 : Nat → Prop) (V : Wt) (a : Option Addr) (n c : Nat) (U : Wt) (a2 : Option Addr) (n2 c2 : Nat) (w : World) (HT : Tabs w) (H : WM K w V a n c) (H2 : WM K2 w U a2 n2 c2) :
 Calls Tryz.prog 38 #[.agg (wtC V.pub a n c).toArray, .agg (wtC U.pub a2 n2 c2).toArray] w (CmpPost (Go.Dr.cmpW 4 V U) w) := by
 have HT' := Lib.hid HT; have H' := Lib.hid H; have H2' := Lib.hid H2
 have hlen2 := Lib.hid H2.len
 have n63 := H2.n63
 obtain ⟨tb, htb⟩ : ∃ tb, Hid (w.heap.size = tb) := ⟨_, rfl⟩
 obtain ⟨ub, hub⟩ : ∃ rb, Hid (tb + 1 = rb) := ⟨_, rfl⟩
 obtain ⟨sb, hsb⟩ : ∃ sb, Hid (ub + 1 = sb) := ⟨_, rfl⟩
 obtain ⟨W0, hW0⟩ : ∃ W, Hid (((w.alloc (.cells (wtC V.pub a n c).toArray 69)).alloc (.cells (wtC U.pub a2 n2 c2).toArray 69)).alloc (.cells (spC Go.Dr.zeroS).toArray 64) = W) := ⟨_, rfl⟩
 have hB0 : Hid (Blk W0 tb 69 (wtC V.pub a n c)) := by rw [← hW0.out, ← htb.out]; exact ((Blk.new w _ (wtC V.pub a n c)).alloc _).alloc _
 have hU0 : Hid (Blk W0 ub 69 (wtC U.pub a2 n2 c2)) := by
  rw [← hW0.out, ← hub.out, ← htb.out]
  have := (Blk.new (w.alloc (.cells (wtC V.pub a n c).toArray 69)) 69 (wtC U.pub a2 n2 c2)).alloc (.cells (spC Go.Dr.zeroS).toArray 64)
  rwa [World.size_alloc] at this
 have hS0 : Hid (Blk W0 sb 64 (spC Go.Dr.zeroS)) := by
  rw [← hW0.out, ← hsb.out, ← hub.out, ← htb.out]
  have := Blk.new ((w.alloc (.cells (wtC V.pub a n c).toArray 69)).alloc (.cells (wtC U.pub a2 n2 c2).toArray 69)) 64 (spC Go.Dr.zeroS)
  rwa [World.size_alloc, World.size_alloc] at this
 have hb0 : Hid (Below w.heap.size w W0) := by rw [← hW0.out]; exact (((Below.refl _ w).alloc (Nat.le_refl _) _).alloc (by simp) _).alloc (by simp; omega) _
 have hwsb : Hid (w.heap.size ≤ sb) := by have := htb.out; have := hub.out; have := hsb.out; show _ ≤ _; omega
 have e2 : tb < ub := by have := hub.out; omega
 have e3 : ub < sb := by have := hsb.out; omega
 obtain ⟨X, hX⟩ : ∃ X, X = CmpPost (Go.Dr.cmpW 4 V U) w := ⟨_, rfl⟩
 have hfin : Hid (∀ y W, Go.Dr.cmpW 4 V U = y → Below w.heap.size w W → X (.returned (.tuple #[.agg (spC y.1).toArray, .bool y.2])) W) := fun y W h1 h2 => by rw [hX, h1]; exact ⟨rfl, h2⟩
 rw [← hX]
 clear hX
 have hzo : Hid ((Tryz.prog.info? 64).map (·.size) = some (spC Go.Dr.zeroS).length) := sizeSp' okZS
 have hz1 := Lib.hid (spC_one Go.Dr.zeroS)
 have hTw : Hid (∀ W, Below w.heap.size w W → Tabs W) := fun W h => HT'.out.below h
 have hMw : Hid (∀ W, Below w.heap.size w W → WM K W V a n c) := fun W h => H'.out.below h
 have hNw : Hid (∀ W, Below w.heap.size w W → WM K2 W U a2 n2 c2) := fun W h => H2'.out.below h
 have hoks := Lib.hid H.qs.oks
 have hokU := Lib.hid H2.qs.oks
 have hW0' := hW0.out
 obtain ⟨zS, hzS⟩ : ∃ zS, Hid (spC Go.Dr.zeroS = zS) := ⟨_, rfl⟩
 rw [hzS.out] at hS0 hzo hz1
 clear H H2 HT HT' H' H2' hW0
 have hckV := Lib.hid (fun W hT hM => gchk_any K V a n c W hT hM)
 have hckU := Lib.hid (fun W hT hM => gchk_any K2 U a2 n2 c2 W hT hM)
 obtain ⟨Q1, hQ1⟩ : ∃ q, Go.Dr.wchk 4 V = q := ⟨_, rfl⟩
 obtain ⟨Q2, hQ2⟩ : ∃ q, Go.Dr.wchk 4 U = q := ⟨_, rfl⟩
 unfold chkW at hckV hckU
 rw [hQ1] at hckV
 rw [hQ2] at hckU
 have hcw : Hid (Go.Dr.cmpW 4 V U = if Q1 && Q2 && decide (V.pub = U.pub) then Go.Dr.cmpGo V.rs U.rs else (Go.Dr.zeroS, false)) := by show _ = _; unfold Go.Dr.cmpW; rw [hQ1, hQ2]
 have hQ1' := Lib.hid hQ1
 have hQ2' := Lib.hid hQ2
 clear hQ1 hQ2
 have y0 := hB0.out.at_ (i := 0) (x := .int .i64 V.pub) rfl
 have y1 := hB0.out.at_ (i := 1) (x := .slice a n c) rfl
 go_enter Tryz.func38, Tryz.ntmps38
 go_upto_region 1 with fail
 rw [htb.out, hub.out, hsb.out]
 generalize hWz : World.alloc _ _ = Wz
 obtain rfl : W0 = Wz := by rw [← hWz]; exact hW0'.symm
 clear hWz hW0'
 go_wp2_with fail
 refine (hckV.out _ (hTw.out _ hb0.out) (hMw.out _ hb0.out)).mono ?_
 rintro e w1 ⟨rfl, hst⟩
 have hb1 := Lib.hid (hb0.out.trans (hst.mono hb0.out.size))
 have hB1 := Lib.hid (hB0.out.below hst hB0.out.lt)
 have hU1 := Lib.hid (hU0.out.below hst hU0.out.lt)
 have hS1 := Lib.hid (hS0.out.below hst hS0.out.lt)
 clear hst hB0 hU0 hS0 hb0 y0 y1 hckV
 cases Q1 with
 | false =>
  have hf2 := Lib.hid (fun W hW => hfin.out (Go.Dr.zeroS, false) W (by rw [hcw.out]; rfl) hW)
  simp only at hf2
  rw [hzS.out] at hf2
  obtain ⟨V9, hP9⟩ := put_row (ty := 64) hS1.out (x := zS) rfl hzo.out hz1.out
  have hb9 := Lib.hid (below_grown hb1.out hP9.grown hb1.out.size hwsb.out)
  have hP9' := Lib.hid hP9
  have hrgS := Lib.hid hS1.out.range
  clear hP9 hfin
  go_wp2_with (first
   | (refine wpList_load_mid (by rfl) 64 (.tmp 4) (by rfl) sb 0 (by rfl) zS _ hrgS.out Tryz.underlying64 (by rfl) hzo.out ?_)
    | (refine wpList_store_mid (by rfl) 64 (.tmp 4) (.tmp 25) (by rfl) sb 0 zS.toArray (by rfl) (by rfl) hP9'.out.there hP9'.out.info (by simpa using hP9'.out.one) ?_
       generalize hWq : World.setCells _ _ _ _ = Wa
       obtain rfl : V9 = Wa := by rw [← hWq]; exact hP9'.out.eq
       clear hWq))
  exact ret_cell_tmp (p := 4) (u := 5) rfl hP9'.out.blk Tryz.underlying64 rfl hzo.out rfl rfl rfl (hf2.out _ hb9.out)
 | true =>
  rw [if_pos rfl]
  have z0 := hU1.out.at_ (i := 0) (x := .int .i64 U.pub) rfl
  have z1 := hU1.out.at_ (i := 1) (x := .slice a2 n2 c2) rfl
  go_wp2_with fail
  refine (hckU.out _ (hTw.out _ hb1.out) (hNw.out _ hb1.out)).mono ?_
  rintro e w2 ⟨rfl, hst⟩
  have hb2 := Lib.hid (hb1.out.trans (hst.mono hb1.out.size))
  have hB2 := Lib.hid (hB1.out.below hst hB1.out.lt)
  have hU2 := Lib.hid (hU1.out.below hst hU1.out.lt)
  have hS2 := Lib.hid (hS1.out.below hst hS1.out.lt)
  clear hst hB1 hU1 hS1 hb1 z0 z1 hckU
  cases Q2 with
  | false =>
   have hf2 := Lib.hid (fun W hW => hfin.out (Go.Dr.zeroS, false) W (by rw [hcw.out]; rfl) hW)
   simp only at hf2
   rw [hzS.out] at hf2
   obtain ⟨V9, hP9⟩ := put_row (ty := 64) hS2.out (x := zS) rfl hzo.out hz1.out
   have hb9 := Lib.hid (below_grown hb2.out hP9.grown hb2.out.size hwsb.out)
   have hP9' := Lib.hid hP9
   have hrgS := Lib.hid hS2.out.range
   clear hP9 hfin
   go_wp2_with (first
    | (refine wpList_load_mid (by rfl) 64 (.tmp 4) (by rfl) sb 0 (by rfl) zS _ hrgS.out Tryz.underlying64 (by rfl) hzo.out ?_)
     | (refine wpList_store_mid (by rfl) 64 (.tmp 4) (.tmp 25) (by rfl) sb 0 zS.toArray (by rfl) (by rfl) hP9'.out.there hP9'.out.info (by simpa using hP9'.out.one) ?_
        generalize hWq : World.setCells _ _ _ _ = Wa
        obtain rfl : V9 = Wa := by rw [← hWq]; exact hP9'.out.eq
        clear hWq))
   exact ret_cell_tmp (p := 4) (u := 5) rfl hP9'.out.blk Tryz.underlying64 rfl hzo.out rfl rfl rfl (hf2.out _ hb9.out)
  | true =>
   rw [if_pos rfl]
   have y0 := hB2.out.at_ (i := 0) (x := .int .i64 V.pub) rfl
   have z0 := hU2.out.at_ (i := 0) (x := .int .i64 U.pub) rfl
   by_cases hpp : V.pub = U.pub
   rotate_left
   · have hpe : (V.pub == U.pub) = false := by simpa using hpp
     have hpe2 : (V.pub != U.pub) = true := by rw [bne, hpe]; rfl
     have hf2 := Lib.hid (fun W hW => hfin.out (Go.Dr.zeroS, false) W (by rw [hcw.out, decide_eq_false hpp]; rfl) hW)
     simp only at hf2
     rw [hzS.out] at hf2
     obtain ⟨V9, hP9⟩ := put_row (ty := 64) hS2.out (x := zS) rfl hzo.out hz1.out
     have hb9 := Lib.hid (below_grown hb2.out hP9.grown hb2.out.size hwsb.out)
     have hP9' := Lib.hid hP9
     have hrgS := Lib.hid hS2.out.range
     clear hP9 hfin
     go_wp2_with (first
      | (refine wpList_load_mid (by rfl) 64 (.tmp 4) (by rfl) sb 0 (by rfl) zS _ hrgS.out Tryz.underlying64 (by rfl) hzo.out ?_)
       | (refine wpList_store_mid (by rfl) 64 (.tmp 4) (.tmp 25) (by rfl) sb 0 zS.toArray (by rfl) (by rfl) hP9'.out.there hP9'.out.info (by simpa using hP9'.out.one) ?_
          generalize hWq : World.setCells _ _ _ _ = Wa
          obtain rfl : V9 = Wa := by rw [← hWq]; exact hP9'.out.eq
          clear hWq))
     exact ret_cell_tmp (p := 4) (u := 5) rfl hP9'.out.blk Tryz.underlying64 rfl hzo.out rfl rfl rfl (hf2.out _ hb9.out)
   have hpe : (V.pub == U.pub) = true := by simpa using hpp
   have hpe2 : (V.pub != U.pub) = false := by rw [bne, hpe]; rfl
   rw [decide_eq_true hpp] at hcw
   clear hpp
   have hcg : Hid (Go.Dr.cmpW 4 V U = Go.Dr.cmpGo V.rs U.rs) := by show _ = _; rw [hcw.out]; rfl
   have hnum := Lib.hid (WOk.nums (Go.Dr.wchk_iff.1 hQ1'.out))
   have hprU : Hid (∀ x ∈ U.rs, 1 ≤ x.no ∧ x.no ≤ 65536) := fun x hx => Go.Dr.proper_no ((Go.Dr.wchk_iff.1 hQ2'.out).pr x hx)
   have z1 := hU2.out.at_ (i := 1) (x := .slice a2 n2 c2) rfl
   clear hcw hQ1' hQ2'
   go_wp2_with fail
   clear y0 z0 z1 hpe hpe2
   go_loopw [29] (fun i wr => ∃ k : Nat, k ≤ n2 ∧ i = .int .i64 (k : Int) ∧ Hid (Go.Dr.cmpGo V.rs (U.rs.drop k) = Go.Dr.cmpGo V.rs U.rs) ∧ Hid (Below w2.heap.size w2 wr)) (fun i _ => n2 - (intOf i).toNat)
   case atStart => exact ⟨0, Nat.zero_le _, rfl, rfl, Below.refl _ _⟩
   case round =>
    obtain ⟨k, hk, rfl, hgo, hbr⟩ := hrel
    have hbw := Lib.hid (hb2.out.trans (hbr.out.mono hb2.out.size))
    by_cases hlt : k < n2
    · have hkl : k < U.rs.length := by have := hlen2.out; omega
      obtain ⟨x, hx⟩ : ∃ x, U.rs[k]? = some x := ⟨_, List.getElem?_eq_getElem hkl⟩
      have hdrop : U.rs.drop k = x :: U.rs.drop (k + 1) := by rw [List.drop_eq_getElem_cons hkl, (List.getElem?_eq_some_iff.1 hx).2]
      have hgo2 := hgo.out
      rw [hdrop] at hgo2
      rw [Go.Dr.cmpGo] at hgo2
      obtain ⟨b, off, rfl, hbl, _, hox, hrg0⟩ := (hNw.out _ hbw.out).qs.cells hx
      have hxm := List.mem_of_getElem? hx
      have hrgx := Lib.hid hrg0
      have hri : Hid ((Tryz.prog.info? 62).map (·.size) = some (rC x).length) := by show _ = _; rw [rC_length hox]; exact sizeR
      obtain ⟨V6, hP6⟩ : ∃ V, Hid (PutR 62 (wr.alloc (.cells (rC Go.Dr.zeroR).toArray 62)) V wr.heap.size 62 (rC x)) := put_row (Blk.new wr 62 (rC Go.Dr.zeroR)) (by rw [rC_length hox, rC_length okZ]) (hri.out) (rC_one x)
      have hst6 := below_grown ((Below.refl _ wr).alloc (Nat.le_refl _) _) hP6.out.grown (by simp) (Nat.le_refl _)
      have hb6 := Lib.hid (hbr.out.trans (hst6.mono hbr.out.size))
      have hb6w := Lib.hid (hbw.out.trans (hst6.mono hbw.out.size))
      have hr6 := Lib.hid hP6.out.blk.range
      have y0 := (hB2.out.below hb6.out hB2.out.lt).at_ (i := 0) (x := .int .i64 V.pub) rfl
      have y1 := (hB2.out.below hb6.out hB2.out.lt).at_ (i := 1) (x := .slice a n c) rfl
      have hcf := Lib.hid (fun W hT hM => confl_any K V a n c x hox (hprU.out x hxm) W hT hM hnum.out)
      unfold ConfPost at hcf
      have hCk : Hid (OkS (Go.Dr.confl V.rs x).1) := confl_ok' hoks.out hox
      obtain ⟨C, hC⟩ : ∃ C, Hid ((Go.Dr.confl V.rs x).1 = C) := ⟨_, rfl⟩
      obtain ⟨G, hG⟩ : ∃ G, Hid ((Go.Dr.confl V.rs x).2 = G) := ⟨_, rfl⟩
      rw [hC.out, hG.out] at hcf hgo2
      rw [hC.out] at hCk
      have hgo3 := Lib.hid hgo2
      obtain ⟨rr, hre⟩ : ∃ rr, Hid (rC x = rr) := ⟨_, rfl⟩
      rw [hre.out] at hrgx hri hP6 hr6 hcf
      obtain ⟨xb, hxb⟩ : ∃ xb, Hid (wr.heap.size = xb) := ⟨_, rfl⟩
      rw [hxb.out] at hr6
      have k0 : (0 : Int) ≤ (k : Int) := by omega
      have k1 : (k : Int) < (n2 : Int) := by omega
      clear hrg0 hx hkl hgo hgo2 hdrop hox hst6 hbw hxm hC hG
      go_wp2_with (first
       | (refine wpList_load_mid (by rfl) 62 (.tmp 31) (by rfl) b (off + k * 67) (by rfl) rr _ hrgx.out Tryz.underlying62 (by rfl) hri.out ?_)
        | (refine wpList_store_mid (by rfl) 62 (.tmp 7) (.tmp 32) (by rfl) wr.heap.size 0 rr.toArray (by rfl) (by rfl) hP6.out.there hP6.out.info (by simpa using hP6.out.one) ?_
           generalize hWq : World.setCells _ _ _ _ = Wa
           obtain rfl : V6 = Wa := by rw [← hWq]; exact hP6.out.eq
           clear hWq
           rw [hxb.out])
        | (refine wpList_load_mid (by rfl) 62 (.tmp 7) (by rfl) xb 0 (by rfl) rr _ hr6.out Tryz.underlying62 (by rfl) hri.out ?_))
      refine (hcf.out _ (hTw.out _ hb6w.out) (hMw.out _ hb6w.out)).mono ?_
      rintro e w7 ⟨rfl, hst7⟩
      have hb7 := Lib.hid (hb6.out.trans (hst7.mono hb6.out.size))
      have hCl : Hid ((spC C).length = 134) := spC_length hCk.out
      obtain ⟨V8, hP8⟩ : ∃ V, Hid (PutR 64 (w7.alloc (.cells (spC Go.Dr.zeroS).toArray 64)) V w7.heap.size 64 (spC C)) := put_row (Blk.new w7 64 (spC Go.Dr.zeroS)) (by rw [hCl.out, spC_length okZS]) (by rw [hCl.out]; exact sizeSp) (spC_one C)
      have hst8 := below_grown ((Below.refl _ w7).alloc (Nat.le_refl _) _) hP8.out.grown (by simp) (Nat.le_refl _)
      have hb8 := Lib.hid (hb7.out.trans (hst8.mono hb7.out.size))
      have hb8w := Lib.hid (hb2.out.trans (hb8.out.mono hb2.out.size))
      have hS8 := Lib.hid (hS2.out.below hb8.out hS2.out.lt)
      have hCi : Hid ((Tryz.prog.info? 64).map (·.size) = some (spC C).length) := by show _ = _; rw [hCl.out]; exact sizeSp
      have hC1 := Lib.hid (spC_one C)
      have hA8 := Lib.hid hP8.out.blk
      obtain ⟨sp, hsp⟩ : ∃ sp, Hid (spC C = sp) := ⟨_, rfl⟩
      obtain ⟨ab, hab⟩ : ∃ ab, Hid (w7.heap.size = ab) := ⟨_, rfl⟩
      have hszl : Hid (sp.length = zS.length) := by show _ = _; rw [← hsp.out, ← hzS.out, hCl.out, spC_length okZS]
      rw [hsp.out] at hP8 hA8 hCi hC1 ⊢
      rw [hab.out] at hA8
      clear hst7 hst8 y0 y1 hb6 hb6w hr6 hP6 hrgx hcf hb7
      cases G with
      | true =>
       have hf2 := Lib.hid (fun W hW => hfin.out (C, true) W (by rw [hcg.out, ← hgo3.out]; rfl) hW)
       simp only at hf2
       rw [hsp.out] at hf2
       obtain ⟨V9, hP9⟩ := put_row (ty := 64) hS8.out (x := sp) hszl.out hCi.out hC1.out
       have hb9 := Lib.hid (below_grown hb8w.out hP9.grown hb8w.out.size hwsb.out)
       have hP9' := Lib.hid hP9
       have hrgA := Lib.hid hA8.out.range
       clear hP9 hfin hgo3
       go_wp2_with (first
        | (refine wpList_store_mid (by rfl) 64 (.tmp 8) (.tmp 37) (by rfl) w7.heap.size 0 sp.toArray (by rfl) (by rfl) hP8.out.there hP8.out.info (by simpa using hP8.out.one) ?_
           generalize hWq : World.setCells _ _ _ _ = Wa
           obtain rfl : V8 = Wa := by rw [← hWq]; exact hP8.out.eq
           clear hWq
           rw [hab.out])
            | (refine wpList_load_mid (by rfl) 64 (.tmp 8) (by rfl) ab 0 (by rfl) sp _ hrgA.out Tryz.underlying64 (by rfl) hCi.out ?_)
            | (refine wpList_store_mid (by rfl) 64 (.tmp 4) (.tmp 40) (by rfl) sb 0 sp.toArray (by rfl) (by rfl) hP9'.out.there hP9'.out.info (by simpa using hP9'.out.one) ?_
               generalize hWq : World.setCells _ _ _ _ = Wa
               obtain rfl : V9 = Wa := by rw [← hWq]; exact hP9'.out.eq
               clear hWq))
       exact ret_cell_tmp (p := 4) (u := 5) rfl hP9'.out.blk Tryz.underlying64 rfl hCi.out rfl rfl rfl (hf2.out _ hb9.out)
      | false =>
       have hgo4 : Hid (Go.Dr.cmpGo V.rs (U.rs.drop (k + 1)) = Go.Dr.cmpGo V.rs U.rs) := by show _ = _; rw [← hgo3.out]; rfl
       clear hgo3 hA8 hS8
       go_wp2_with (first
        | (refine wpList_store_mid (by rfl) 64 (.tmp 8) (.tmp 37) (by rfl) w7.heap.size 0 sp.toArray (by rfl) (by rfl) hP8.out.there hP8.out.info (by simpa using hP8.out.one) ?_
           generalize hWq : World.setCells _ _ _ _ = Wa
           obtain rfl : V8 = Wa := by rw [← hWq]; exact hP8.out.eq
           clear hWq
           rw [hab.out]))
       go_roundw
       case rel => exact ⟨k + 1, by omega, by go_num, hgo4, hb8⟩
       case measure => simp [intOf]; omega
    · obtain rfl : k = n2 := by omega
      have hgz : Hid (Go.Dr.cmpGo V.rs U.rs = (Go.Dr.zeroS, false)) := by show _ = _; rw [← hgo.out, List.drop_of_length_le (by have := hlen2.out; omega)]; rfl
      have hS3 := Lib.hid (hS2.out.below hbr.out hS2.out.lt)
      have hb3 := hbw
      clear hgo
      have hf2 := Lib.hid (fun W hW => hfin.out (Go.Dr.zeroS, false) W (by rw [hcg.out, hgz.out]) hW)
      simp only at hf2
      rw [hzS.out] at hf2
      obtain ⟨V9, hP9⟩ := put_row (ty := 64) hS3.out (x := zS) rfl hzo.out hz1.out
      have hb9 := Lib.hid (below_grown hb3.out hP9.grown hb3.out.size hwsb.out)
      have hP9' := Lib.hid hP9
      have hrgS := Lib.hid hS3.out.range
      clear hP9 hfin
      go_wp2_with (first
       | (refine wpList_load_mid (by rfl) 64 (.tmp 4) (by rfl) sb 0 (by rfl) zS _ hrgS.out Tryz.underlying64 (by rfl) hzo.out ?_)
        | (refine wpList_store_mid (by rfl) 64 (.tmp 4) (.tmp 42) (by rfl) sb 0 zS.toArray (by rfl) (by rfl) hP9'.out.there hP9'.out.info (by simpa using hP9'.out.one) ?_
           generalize hWq : World.setCells _ _ _ _ = Wa
           obtain rfl : V9 = Wa := by rw [← hWq]; exact hP9'.out.eq
           clear hWq))
      exact ret_cell_tmp (p := 4) (u := 5) rfl hP9'.out.blk Tryz.underlying64 rfl hzo.out rfl rfl rfl (hf2.out _ hb9.out)
end Go.Proofs.YtlpgjdlkjahdgaaGreatDoor
namespace Go.Dr
def growS (b : Int) (D : Dir) (x : Lst) : Dir := if (setD b D x).2 = 0 then (setD b D x).1 else if (tickD b D).2 = 0 then (tickD b D).1 else D
def grownD (b : Int) : Dir → List Lst → Dir
 | D, [] => D
 | D, x :: t => grownD b (growS b D x) t
end Go.Dr
namespace Go.Proofs.YtlpgjdlkjahdgaaGreatDoor
open Go.RowKit Go.Mem
open Go.Dr (Lst Rt Dir Wt)

theorem tick_at {D E : Dir} {la : Option Addr} {ln lc : Nat} {ra : Option Addr} {rn rc : Nat} {w : World} (h : Go.Dr.tickD 4 D = (E, 0)) (hl : E.ls = D.ls) (_hp : E.priv = D.priv) (HT : Tabs w) (H : DM (fun _ => True) w D la ln lc ra rn rc) :
 Calls Tryz.prog 129 #[.agg (dirC D.priv la ln lc ra rn rc).toArray] w (fun e w' => ∃ b d, e = .returned (.tuple #[.agg (dirC E.priv la E.ls.length lc b E.rs.length d).toArray, .int .i64 0]) ∧ QS (fun b => w.heap.size ≤ b) w' b E.rs.length d E.rs ∧ Below w.heap.size w w') := by
 have h1 := tick_any (fun _ => True) D la ln lc ra rn rc w HT H
 rw [h] at h1
 refine h1.mono ?_
 rintro e w' (⟨_, b, m, d, rfl, hQ, hb⟩ | ⟨h0, _⟩)
 · obtain rfl : E.rs.length = m := RS.len hQ
   obtain rfl : E.ls.length = ln := by rw [hl]; exact RS.len H.gs
   exact ⟨b, d, rfl, hQ, hb⟩
 · exact absurd rfl h0
theorem tick_no {D E : Dir} {q : Int} {la : Option Addr} {ln lc : Nat} {ra : Option Addr} {rn rc : Nat} {w : World} (h : Go.Dr.tickD 4 D = (E, q)) (hq : q ≠ 0) (HT : Tabs w) (H : DM (fun _ => True) w D la ln lc ra rn rc) :
 Calls Tryz.prog 129 #[.agg (dirC D.priv la ln lc ra rn rc).toArray] w (fun e w' => e = .returned (.tuple #[.agg zdV.toArray, .int .i64 q]) ∧ Below w.heap.size w w') := by
 have h1 := tick_any (fun _ => True) D la ln lc ra rn rc w HT H
 rw [h] at h1
 refine h1.mono ?_
 rintro e w' (⟨h0, _⟩ | ⟨_, rfl, hb⟩)
 · exact absurd h0 hq
 · exact ⟨rfl, hb⟩
theorem tick_same {b : Int} {D E : Dir} (h : Go.Dr.tickD b D = (E, 0)) : E.ls = D.ls ∧ E.priv = D.priv := by
 unfold Go.Dr.tickD at h
 split at h
 · split at h
   · split at h
     · simp only [Prod.mk.injEq, and_true] at h; rw [← h]; exact ⟨rfl, rfl⟩
     · simp at h
   · simp at h
 · simp at h

end Go.Proofs.YtlpgjdlkjahdgaaGreatDoor
namespace Go.Mem
open Go.RowKit
variable {P : Program}
theorem results_cell_tmp_tmp {fn : Func} {p u u2 : Tmp} {ty : TypeId} (h : fn.results = #[.cell p ty, .tmp u, .tmp u2]) (tmps : Array Value) (w : World) :
 (results fn tmps).run P w = ((asAddr (tmps.getD p undef)).run P w).andThen fun a w₁ => ((loadVar ty a).run P w₁).andThen fun x w₂ => .ok (.tuple #[x, tmps.getD u undef, tmps.getD u2 undef]) w₂ := by
 simp only [results, h]
 simp [Sem.run_bind, Result.andThen]
theorem ret_cell_tmp_tmp {fn : Func} {p u u2 : Tmp} {ty t : TypeId} (h : fn.results = #[.cell p ty, .tmp u, .tmp u2]) {W : World} {g : Nat} {r : List Value} {d : TypeDesc} {v v2 : Value} (hB : Blk W g t r) (hu : P.underlying ty = some d) (hd : d.isRow = true) (hi : (P.info? ty).map (·.size) = some r.length)
 {a : Act} (hp : a.tmps.getD p undef = .pointer (some ⟨g, 0, none⟩)) (hq : a.tmps.getD u undef = v) (hq2 : a.tmps.getD u2 undef = v2) (hdf : a.defers = []) {Post : Ending → World → Prop} (hP : Post (.returned (.tuple #[.agg r.toArray, v, v2])) W) : bodyPost P fn Post .ret a W := by
 refine bodyPost_ret (v := .tuple #[.agg r.toArray, v, v2]) ?_ hdf hP
 rw [results_cell_tmp_tmp h, hp, hq, hq2]
 simp only [asAddr, Sem.run_pure, Result.andThen_ok, load_blk hB hu hd hi]
end Go.Mem
namespace Go.Proofs.YtlpgjdlkjahdgaaGreatDoor
open Go.RowKit Go.Mem
open Go.Dr (Lst Rt Dir Wt)
def Open36Post (k : Int) (w : World) (e : Ending) (w' : World) : Prop := e = .returned (.tuple #[.agg (dirC (Go.Dr.newD k).1.priv none 0 0 none 0 0).toArray, .int .i64 (publicK 4 k).1, .bool (keyOk k)]) ∧ Below w.heap.size w w'
set_option maxRecDepth 20000 in
set_option maxHeartbeats 2000000 in
theorem open36_any (k : Int) (w : World) : Calls Tryz.prog 81 #[.int .i64 k] w (Open36Post k w) := by
 have hn := Lib.hid (dnew_any k)
 have hp := Lib.hid (Public_any k)
 unfold NewPost at hn
 unfold RetII at hp
 have hq : Hid ((Go.Dr.newD k).2 = if keyOk k then 0 else 50) := by show _ = _; unfold Go.Dr.newD; cases keyOk k <;> rfl
 have hq2 : Hid ((publicK 4 k).2 = if keyOk k then 0 else 50) := by show _ = _; unfold publicK; cases keyOk k <;> rfl
 obtain ⟨X, hX⟩ : ∃ X, X = Open36Post k w := ⟨_, rfl⟩
 have hfin : Hid (∀ W, Below w.heap.size w W → X (.returned (.tuple #[.agg (dirC (Go.Dr.newD k).1.priv none 0 0 none 0 0).toArray, .int .i64 (publicK 4 k).1, .bool (keyOk k)])) W) := fun W h => by rw [hX]; exact ⟨rfl, h⟩
 rw [← hX]
 clear hX
 obtain ⟨pr, hpr⟩ : ∃ p, Hid ((Go.Dr.newD k).1.priv = p) := ⟨_, rfl⟩
 obtain ⟨pu, hpu⟩ : ∃ p, Hid ((publicK 4 k).1 = p) := ⟨_, rfl⟩
 obtain ⟨ko, hko⟩ : ∃ p, Hid (keyOk k = p) := ⟨_, rfl⟩
 rw [hq.out, hpr.out, hko.out] at hn
 rw [hq2.out, hpu.out, hko.out] at hp
 rw [hpr.out, hpu.out, hko.out] at hfin
 clear hq hq2
 cases ko with
 | false =>
  rw [if_neg (by simp)] at hn hp
  obtain ⟨tb, htb⟩ : ∃ tb, Hid (w.heap.size = tb) := ⟨_, rfl⟩
  obtain ⟨W0, hW0⟩ : ∃ W, Hid (w.alloc (.cells (dirC 0 none 0 0 none 0 0).toArray 113) = W) := ⟨_, rfl⟩
  have hB0 : Hid (Blk W0 tb 113 (dirC 0 none 0 0 none 0 0)) := by rw [← hW0.out, ← htb.out]; exact Blk.new w _ _
  have hb0 : Hid (Below w.heap.size w W0) := by rw [← hW0.out]; exact (Below.refl _ w).alloc (Nat.le_refl _) _
  go_enter Tryz.func81, Tryz.ntmps81
  go_upto_region 1 with fail
  rw [htb.out]
  generalize hWz : World.alloc _ _ = Wz
  obtain rfl : W0 = Wz := by rw [← hWz]; exact hW0.out.symm
  clear hWz hW0
  go_wp2_with fail
  refine (hn.out _).mono ?_
  rintro e w1 ⟨rfl, hst⟩
  have hb1 := Lib.hid (hb0.out.trans (hst.mono hb0.out.size))
  have hB1 := Lib.hid (hB0.out.below hst hB0.out.lt)
  clear hst hb0 hB0 hn
  obtain ⟨v2, hP⟩ : ∃ V, Hid (PutR 113 (w1.alloc (.cells (dirC 0 none 0 0 none 0 0 : List Value).toArray 113)) V w1.heap.size 113 (dirC pr none 0 0 none 0 0)) := put_row (Blk.new w1 113 (dirC 0 none 0 0 none 0 0 : List Value)) rfl (sizeDr) (dr_one _ _ _ _ _ _ _)
  have hst := below_grown ((Below.refl _ w1).alloc (Nat.le_refl _) _) hP.out.grown (by simp) (Nat.le_refl _)
  have hb2 := Lib.hid (hb1.out.trans (hst.mono hb1.out.size))
  have hB2 := Lib.hid (hB1.out.below hst hB1.out.lt)
  have hD2 := Lib.hid hP.out.blk
  obtain ⟨db, hdb⟩ : ∃ db, Hid (w1.heap.size = db) := ⟨_, rfl⟩
  have hDd := hD2.out
  rw [hdb.out] at hDd
  have hD2' := Lib.hid hDd
  clear hst hb1 hB1 hD2 hDd
  go_wp2_with (first
   | (refine wpList_store_mid (by rfl) 113 (.tmp 5) (.tmp 12) (by rfl) w1.heap.size 0 (dirC pr none 0 0 none 0 0).toArray (by rfl) (by rfl) hP.out.there hP.out.info (by simpa using hP.out.one) ?_
      generalize hWq : World.setCells _ _ _ _ = Wa
      obtain rfl : v2 = Wa := by rw [← hWq]; exact hP.out.eq
      clear hWq
      rw [hdb.out]))
  refine (hp.out _).mono ?_
  rintro e w3 ⟨rfl, hst⟩
  have hb3 := Lib.hid (hb2.out.trans (hst.mono hb2.out.size))
  have hB3 := Lib.hid (hB2.out.below hst hB2.out.lt)
  have hD3 := Lib.hid (hD2'.out.below hst hD2'.out.lt)
  clear hst hb2 hB2 hD2' hp hP
  obtain ⟨V9, hP9⟩ := put_row (ty := 113) hB3.out (x := dirC pr none 0 0 none 0 0) rfl sizeDr (dr_one _ _ _ _ _ _ _)
  have hb9 := Lib.hid (below_grown hb3.out hP9.grown hb3.out.size (Nat.le_of_eq htb.out))
  have hP9' := Lib.hid hP9
  have y0 := hD3.out.at_ (i := 0) (x := .int .i64 pr) rfl
  have y1 := hD3.out.at_ (i := 1) (x := .slice none 0 0) rfl
  have y2 := hD3.out.at_ (i := 2) (x := .slice none 0 0) rfl
  have hend := Lib.hid (hfin.out _ hb9.out)
  clear hP9 hfin
  go_wp2_with (first
   | (refine wpList_store_mid (by rfl) 113 (.tmp 2) (.tmp 19) (by rfl) tb 0 (dirC pr none 0 0 none 0 0).toArray (by rfl) (by rfl) hP9'.out.there hP9'.out.info (by simpa using hP9'.out.one) ?_
      generalize hWq : World.setCells _ _ _ _ = Wa
      obtain rfl : V9 = Wa := by rw [← hWq]; exact hP9'.out.eq
      clear hWq))
  exact ret_cell_tmp_tmp (p := 2) (u := 3) (u2 := 4) rfl hP9'.out.blk Tryz.underlying113 rfl sizeDr rfl rfl rfl rfl hend.out
 | true =>
  rw [if_pos rfl] at hn hp
  obtain ⟨tb, htb⟩ : ∃ tb, Hid (w.heap.size = tb) := ⟨_, rfl⟩
  obtain ⟨W0, hW0⟩ : ∃ W, Hid (w.alloc (.cells (dirC 0 none 0 0 none 0 0).toArray 113) = W) := ⟨_, rfl⟩
  have hB0 : Hid (Blk W0 tb 113 (dirC 0 none 0 0 none 0 0)) := by rw [← hW0.out, ← htb.out]; exact Blk.new w _ _
  have hb0 : Hid (Below w.heap.size w W0) := by rw [← hW0.out]; exact (Below.refl _ w).alloc (Nat.le_refl _) _
  go_enter Tryz.func81, Tryz.ntmps81
  go_upto_region 1 with fail
  rw [htb.out]
  generalize hWz : World.alloc _ _ = Wz
  obtain rfl : W0 = Wz := by rw [← hWz]; exact hW0.out.symm
  clear hWz hW0
  go_wp2_with fail
  refine (hn.out _).mono ?_
  rintro e w1 ⟨rfl, hst⟩
  have hb1 := Lib.hid (hb0.out.trans (hst.mono hb0.out.size))
  have hB1 := Lib.hid (hB0.out.below hst hB0.out.lt)
  clear hst hb0 hB0 hn
  obtain ⟨v2, hP⟩ : ∃ V, Hid (PutR 113 (w1.alloc (.cells (dirC 0 none 0 0 none 0 0 : List Value).toArray 113)) V w1.heap.size 113 (dirC pr none 0 0 none 0 0)) := put_row (Blk.new w1 113 (dirC 0 none 0 0 none 0 0 : List Value)) rfl (sizeDr) (dr_one _ _ _ _ _ _ _)
  have hst := below_grown ((Below.refl _ w1).alloc (Nat.le_refl _) _) hP.out.grown (by simp) (Nat.le_refl _)
  have hb2 := Lib.hid (hb1.out.trans (hst.mono hb1.out.size))
  have hB2 := Lib.hid (hB1.out.below hst hB1.out.lt)
  have hD2 := Lib.hid hP.out.blk
  obtain ⟨db, hdb⟩ : ∃ db, Hid (w1.heap.size = db) := ⟨_, rfl⟩
  have hDd := hD2.out
  rw [hdb.out] at hDd
  have hD2' := Lib.hid hDd
  clear hst hb1 hB1 hD2 hDd
  go_wp2_with (first
   | (refine wpList_store_mid (by rfl) 113 (.tmp 5) (.tmp 12) (by rfl) w1.heap.size 0 (dirC pr none 0 0 none 0 0).toArray (by rfl) (by rfl) hP.out.there hP.out.info (by simpa using hP.out.one) ?_
      generalize hWq : World.setCells _ _ _ _ = Wa
      obtain rfl : v2 = Wa := by rw [← hWq]; exact hP.out.eq
      clear hWq
      rw [hdb.out]))
  refine (hp.out _).mono ?_
  rintro e w3 ⟨rfl, hst⟩
  have hb3 := Lib.hid (hb2.out.trans (hst.mono hb2.out.size))
  have hB3 := Lib.hid (hB2.out.below hst hB2.out.lt)
  have hD3 := Lib.hid (hD2'.out.below hst hD2'.out.lt)
  clear hst hb2 hB2 hD2' hp hP
  obtain ⟨V9, hP9⟩ := put_row (ty := 113) hB3.out (x := dirC pr none 0 0 none 0 0) rfl sizeDr (dr_one _ _ _ _ _ _ _)
  have hb9 := Lib.hid (below_grown hb3.out hP9.grown hb3.out.size (Nat.le_of_eq htb.out))
  have hP9' := Lib.hid hP9
  have y0 := hD3.out.at_ (i := 0) (x := .int .i64 pr) rfl
  have y1 := hD3.out.at_ (i := 1) (x := .slice none 0 0) rfl
  have y2 := hD3.out.at_ (i := 2) (x := .slice none 0 0) rfl
  have hend := Lib.hid (hfin.out _ hb9.out)
  clear hP9 hfin
  go_wp2_with (first
   | (refine wpList_store_mid (by rfl) 113 (.tmp 2) (.tmp 19) (by rfl) tb 0 (dirC pr none 0 0 none 0 0).toArray (by rfl) (by rfl) hP9'.out.there hP9'.out.info (by simpa using hP9'.out.one) ?_
      generalize hWq : World.setCells _ _ _ _ = Wa
      obtain rfl : V9 = Wa := by rw [← hWq]; exact hP9'.out.eq
      clear hWq))
  exact ret_cell_tmp_tmp (p := 2) (u := 3) (u2 := 4) rfl hP9'.out.blk Tryz.underlying113 rfl sizeDr rfl rfl rfl rfl hend.out

def GrownPost (K : Nat → Prop) (E : Dir) (w : World) (e : Ending) (w' : World) : Prop := ∃ la lc ra rc, e = .returned (.agg (dirC E.priv la E.ls.length lc ra E.rs.length rc).toArray) ∧ DM (fun b => (K b ∧ b < w.heap.size) ∨ w.heap.size ≤ b) w' E la E.ls.length lc ra E.rs.length rc ∧ Below w.heap.size w w'
set_option maxRecDepth 20000 in
set_option maxHeartbeats 8000000 in
theorem grown_any (K K2 : Nat → Prop) (D : Dir) (la0 : Option Addr) (lc0 : Nat) (ra0 : Option Addr) (rc0 : Nat) (l : List Lst) (a : Option Addr) (n c : Nat) (w : World) (HT : Tabs w) (H : DM K w D la0 D.ls.length lc0 ra0 D.rs.length rc0) (HG : GS K2 w a n c l) :
 Calls Tryz.prog 82 #[.agg (dirC D.priv la0 D.ls.length lc0 ra0 D.rs.length rc0).toArray, .slice a n c] w (GrownPost K (Go.Dr.grownD 4 D l) w) := by
 have HT' := Lib.hid HT
 have hlen := RS.len HG
 have n63 : (n : Int) ≤ 9223372036854775807 := by have := RS.le HG; have := RS.max HG; omega
 obtain ⟨tb, htb⟩ : ∃ tb, Hid (w.heap.size = tb) := ⟨_, rfl⟩
 obtain ⟨xb, hxb⟩ : ∃ rb, Hid (tb + 1 = rb) := ⟨_, rfl⟩
 have e2 : tb < xb := by have := hxb.out; omega
 obtain ⟨W0, hW0⟩ : ∃ W, Hid ((w.alloc (.cells (dirC D.priv la0 D.ls.length lc0 ra0 D.rs.length rc0).toArray 113)).alloc (.cells (dirC 0 none 0 0 none 0 0).toArray 113) = W) := ⟨_, rfl⟩
 have hB0 : Hid (Blk W0 tb 113 (dirC D.priv la0 D.ls.length lc0 ra0 D.rs.length rc0)) := by rw [← hW0.out, ← htb.out]; exact (Blk.new w _ _).alloc _
 have hX0 : Hid (Blk W0 xb 113 (dirC 0 none 0 0 none 0 0)) := by
  rw [← hW0.out, ← hxb.out, ← htb.out]
  have := Blk.new (w.alloc (.cells (dirC D.priv la0 D.ls.length lc0 ra0 D.rs.length rc0).toArray 113)) 113 (dirC 0 none 0 0 none 0 0)
  rwa [World.size_alloc] at this
 have hb0 : Hid (Below tb w W0) := by rw [← hW0.out, ← htb.out]; exact ((Below.refl _ w).alloc (Nat.le_refl _) _).alloc (by simp) _
 have hs0 : Hid (W0.heap.size = xb + 1) := by rw [← hW0.out, ← hxb.out, ← htb.out]; show _ = _; rw [World.size_alloc, World.size_alloc]
 have hD0 : Hid (DM (fun b => (K b ∧ b < tb) ∨ xb < b) W0 D la0 D.ls.length lc0 ra0 D.rs.length rc0) := (H.imp (K' := fun b => (K b ∧ b < tb) ∨ xb < b) (fun b hb hk => .inl ⟨hk, by rw [← htb.out]; exact hb⟩)).below (by rw [htb.out]; exact hb0.out)
 have hTw : Hid (∀ W, Below tb w W → Tabs W) := fun W h => HT'.out.below (by rw [htb.out]; exact h)
 have hGw : Hid (∀ W, Below tb w W → GS K2 W a n c l) := fun W h => HG.below (by rw [htb.out]; exact h)
 obtain ⟨G, hG⟩ : ∃ G, Hid (Go.Dr.grownD 4 D l = G) := ⟨_, rfl⟩
 have hG' := hG.out
 rw [hG']
 obtain ⟨X, hX⟩ : ∃ X, X = GrownPost K G w := ⟨_, rfl⟩
 have hfin : Hid (∀ la lc ra rc W, DM (fun b => (K b ∧ b < tb) ∨ tb ≤ b) W G la G.ls.length lc ra G.rs.length rc → Below tb w W → X (.returned (.agg (dirC G.priv la G.ls.length lc ra G.rs.length rc).toArray)) W) := fun la lc ra rc W h1 h2 => by rw [hX]; exact ⟨la, lc, ra, rc, rfl, by rw [htb.out]; exact h1, by rw [htb.out]; exact h2⟩
 rw [← hX]
 clear hX H HG HT HT'
 have hW0' := hW0.out
 obtain ⟨ln0, hln0⟩ : ∃ m, Hid (D.ls.length = m) := ⟨_, rfl⟩
 obtain ⟨rn0, hrn0⟩ : ∃ m, Hid (D.rs.length = m) := ⟨_, rfl⟩
 go_enter Tryz.func82, Tryz.ntmps82
 go_upto_region 1 with fail
 rw [htb.out, hxb.out]
 generalize hWz : World.alloc _ _ = Wz
 obtain rfl : W0 = Wz := by rw [← hWz]; exact hW0'.symm
 clear hWz hW0 hW0' hG'
 go_wp2_with fail
 go_loopw [5] (fun i wr => ∃ (k : Nat) (D2 : Dir) (la : Option Addr) (lc : Nat) (ra : Option Addr) (rc : Nat), k ≤ n ∧ i = .int .i64 (k : Int) ∧ Hid (Blk wr tb 113 (dirC D2.priv la D2.ls.length lc ra D2.rs.length rc)) ∧ Hid (Blk wr xb 113 (dirC 0 none 0 0 none 0 0)) ∧ Hid (DM (fun b => (K b ∧ b < tb) ∨ xb < b) wr D2 la D2.ls.length lc ra D2.rs.length rc) ∧ Hid (Go.Dr.grownD 4 D2 (l.drop k) = G) ∧ Hid (Below tb w wr)) (fun i _ => n - (intOf i).toNat)
 case atStart => exact ⟨0, D, la0, lc0, ra0, rc0, Nat.zero_le _, rfl, hB0, hX0, hD0, hG, hb0⟩
 case round =>
  obtain ⟨k, D2, la, lc, ra, rc, hk, rfl, hB, hXb, hD, hgr, hbr⟩ := hrel
  have hwt : w.heap.size = tb := htb.out
  by_cases hlt : k < n
  · have hkl : k < l.length := by omega
    obtain ⟨x, hx⟩ : ∃ x, l[k]? = some x := ⟨_, List.getElem?_eq_getElem hkl⟩
    have hdrop : l.drop k = x :: l.drop (k + 1) := by rw [List.drop_eq_getElem_cons hkl, (List.getElem?_eq_some_iff.1 hx).2]
    have hgr2 := hgr.out
    rw [hdrop, Go.Dr.grownD] at hgr2
    have hgs := hGw.out _ hbr.out
    obtain ⟨b, off, rfl, hbl, _, hox0, hrg0⟩ := hgs.cells hx
    have hox := Lib.hid hox0
    have hxl : xb < wr.heap.size := hXb.out.lt
    have hxc0 : Hid (∀ wz, Below wr.heap.size wr wz → wz.cell? ⟨b, off + k * 5, none⟩ = some (.int .i64 x.dev)) := fun wz h => by
     rw [h.cell (p := ⟨b, off + k * 5, none⟩) hbl]
     exact hrg0 0 _ rfl
    have hxc1 : Hid (∀ wz, Below wr.heap.size wr wz → wz.cell? ⟨b, off + k * 5 + 1, none⟩ = some (.int .i64 x.ver)) := fun wz h => by
     rw [h.cell (p := ⟨b, off + k * 5 + 1, none⟩) hbl]
     exact hrg0 1 _ rfl
    have hxc2 : Hid (∀ wz, Below wr.heap.size wr wz → wz.cell? ⟨b, off + k * 5 + 2, none⟩ = some (.int .i64 x.leaf)) := fun wz h => by
     rw [h.cell (p := ⟨b, off + k * 5 + 2, none⟩) hbl]
     exact hrg0 2 _ rfl
    have hxc3 : Hid (∀ wz, Below wr.heap.size wr wz → wz.cell? ⟨b, off + k * 5 + 3, none⟩ = some (.int .i64 x.vers)) := fun wz h => by
     rw [h.cell (p := ⟨b, off + k * 5 + 3, none⟩) hbl]
     exact hrg0 3 _ rfl
    have hxc4 : Hid (∀ wz, Below wr.heap.size wr wz → wz.cell? ⟨b, off + k * 5 + 4, none⟩ = some (.bool x.gone)) := fun wz h => by
     rw [h.cell (p := ⟨b, off + k * 5 + 4, none⟩) hbl]
     exact hrg0 4 _ rfl
    have k0 : (0 : Int) ≤ (k : Int) := by omega
    have k1 : (k : Int) < (n : Int) := by omega
    clear hgr hdrop hgs hx hox0 hkl hrg0
    go_upto_region 4 with fail
    by_cases hs0 : (Go.Dr.setD 4 D2 x).2 = 0
    · obtain ⟨E, hE⟩ : ∃ E, Go.Dr.setD 4 D2 x = (E, 0) := ⟨(Go.Dr.setD 4 D2 x).1, by rw [← hs0]⟩
      have hgE : Go.Dr.growS 4 D2 x = E := by unfold Go.Dr.growS; rw [if_pos hs0, hE]
      rw [hgE] at hgr2
      have hgr3 := Lib.hid hgr2
      clear hgr2 hgE hs0
      refine share (G := ∀ (q9 : Nat) (xa : Option Addr) (xc : Nat) (ya : Option Addr) (yc : Nat) (WZ : World), (Below wr.heap.size wr WZ) → (Blk WZ q9 113 (dirC E.priv xa E.ls.length xc ya E.rs.length yc)) → (wr.heap.size ≤ q9) → (DM (fun b => wr.heap.size ≤ b ∧ b ≠ q9) WZ E xa E.ls.length xc ya E.rs.length yc) → (?GfinR4 : Nat → Option Addr → Nat → Option Addr → Nat → World → Prop) q9 xa xc ya yc WZ) ?hfinR4 ?kfinR4
      case' hfinR4 =>
       intro KfinR4
      case' hfinR4 =>
       refine share (G := ∀ (q9 : Nat) (xa : Option Addr) (xc : Nat) (ya : Option Addr) (yc : Nat) (WZ : World), (Below wr.heap.size wr WZ) → (Blk WZ q9 113 (dirC 0 none 0 0 none 0 0)) → (wr.heap.size ≤ q9) → (DM (fun b => wr.heap.size ≤ b ∧ b ≠ q9) WZ E xa E.ls.length xc ya E.rs.length yc) → (?Gs1_9_R4 : Nat → Option Addr → Nat → Option Addr → Nat → World → Prop) q9 xa xc ya yc WZ) ?hs1_9_R4 ?ks1_9_R4
      case' hs1_9_R4 => intro Ks1_9_R4
      case' hs1_9_R4 =>
       refine share (G := ∀ (xa : Option Addr) (xc : Nat) (ya : Option Addr) (yc : Nat) (WZ : World), (Below wr.heap.size wr WZ) → (DM (fun b => wr.heap.size ≤ b) WZ E xa E.ls.length xc ya E.rs.length yc) → (?Gs1_R4 : Option Addr → Nat → Option Addr → Nat → World → Prop) xa xc ya yc WZ) ?hs1_R4 ?ks1_R4
      case' hs1_R4 => intro Ks1_R4
      case' hs1_R4 =>
       refine share (G := ∀ (q9 : Nat) (WZ : World), (Below wr.heap.size wr WZ) → (Blk WZ q9 113 (dirC 0 none 0 0 none 0 0)) → (wr.heap.size ≤ q9) → (?Gs0_9_R4 : Nat → World → Prop) q9 WZ) ?hs0_9_R4 ?ks0_9_R4
      case' hs0_9_R4 => intro Ks0_9_R4
      case hs0_9_R4 =>
       refine wp_region_held_drew (S := fun wz => Below wr.heap.size wr wz) (by kernel_rfl) ((Below.refl _ wr).drew) (fun hHeld => ?_)
       generalize wr.drew = WZ at *
       refine tX 0 rfl (fun wz hSw => And.intro ((hB.out.below hSw hB.out.lt).at_ (i := 0) (x := .int .i64 D2.priv) rfl) (And.intro ((hB.out.below hSw hB.out.lt).at_ (i := 1) (x := .slice la D2.ls.length lc) rfl) ((hB.out.below hSw hB.out.lt).at_ (i := 2) (x := .slice ra D2.rs.length rc) rfl))) hHeld ?_
       refine tQ 1 rfl hHeld ?_
       refine tQ 2 rfl hHeld ?_
       refine tX 3 rfl (fun wz hSw => And.intro (k0) (k1)) hHeld ?_
       refine tG 4 (v := ?_) rfl (Or.inl ⟨by rfl, ?_⟩) hHeld ?_
       rotate_left
       · intro wz hSw
         have l0 : wz.cell? ⟨b, off + k * 5, none⟩ = some (.int .i64 x.dev) := hxc0.out wz hSw
         have l1 : wz.cell? ⟨b, off + k * 5 + 1, none⟩ = some (.int .i64 x.ver) := hxc1.out wz hSw
         have l2 : wz.cell? ⟨b, off + k * 5 + 2, none⟩ = some (.int .i64 x.leaf) := hxc2.out wz hSw
         have l3 : wz.cell? ⟨b, off + k * 5 + 3, none⟩ = some (.int .i64 x.vers) := hxc3.out wz hSw
         have l4 : wz.cell? ⟨b, off + k * 5 + 4, none⟩ = some (.bool x.gone) := hxc4.out wz hSw
         go_simp
         all_goals (with_reducible rfl)
       try simp only [Act.put, sA, s0, s1]
       refine Go.rd (rs := [5, 9]) ?_
       refine tR rfl (fun K hK => ?_) (tR rfl (fun K hK => ?_) Go.rn)
       case refine_1 =>
        go_simp
        go_at_call 128
        refine (set_at hE hox.out (hTw.out _ (hbr.out.trans (hHeld.mono (by omega)))) ((hD.out.below hHeld).imp (fun _ _ _ => trivial))).mono ?_
        rintro e wq ⟨xa, xc, ya, yc, rfl, hDM0, hst⟩


        refine hK.out _ _ (hHeld.trans (hst.mono hHeld.size)) (fun hHeld2 => ?_)
        clear hK K
        try simp only [Act.put, sA, s0, s1]
        refine tQ 6 rfl hHeld2 ?_
        refine tQ 7 rfl hHeld2 ?_
        refine tQ 8 rfl hHeld2 ?_
        exact Ks1_R4 xa xc ya yc wq (hHeld2) (hDM0.imp (fun b hb hk => by have h8 := hHeld.size; first | (have h9 := hB9.lt; show _ ∧ _; omega) | (show _ ≤ _; omega)))
       case refine_2 =>
        go_simp
        refine hK.out _ _ (hHeld.alloc hHeld.size _) (fun hHeld2 => ?_)
        clear hK K
        try simp only [Act.put, sA, s0, s1]
        generalize hW2 : World.alloc WZ _ = W2
        rw [hW2] at hHeld2
        generalize hq : WZ.heap.size = q9
        have hBn : Blk W2 q9 113 (dirC 0 none 0 0 none 0 0) := by rw [← hW2, ← hq]; exact Blk.new _ _ _
        have hLn := hHeld.size
        rw [hq] at hLn
        clear hW2 hq
        exact Ks0_9_R4 q9 W2 (hHeld2) (hBn) (hLn)
      case ks0_9_R4 =>
       intro q9 WZ hHeld hB9 hL9
       refine tO 5 rfl (fun K hK => ?_)
       go_simp
       go_at_call 128
       refine (set_at hE hox.out (hTw.out _ (hbr.out.trans (hHeld.mono (by omega)))) ((hD.out.below hHeld).imp (fun _ _ _ => trivial))).mono ?_
       rintro e wq ⟨xa, xc, ya, yc, rfl, hDM0, hst⟩


       refine hK.out _ _ (hHeld.trans (hst.mono hHeld.size)) (fun hHeld2 => ?_)
       clear hK K
       try simp only [Act.put, sA, s0, s1]
       refine tQ 6 rfl hHeld2 ?_
       refine tQ 7 rfl hHeld2 ?_
       refine tQ 8 rfl hHeld2 ?_
       exact Ks1_9_R4 q9 xa xc ya yc wq (hHeld2) (hB9.below hst hB9.lt) (hL9) (hDM0.imp (fun b hb hk => by have h8 := hHeld.size; first | (have h9 := hB9.lt; show _ ∧ _; omega) | (show _ ≤ _; omega)))
      case ks1_R4 =>
       intro xa xc ya yc WZ hHeld hDM
       refine tO 9 rfl (fun K hK => ?_)
       go_simp
       refine hK.out _ _ (hHeld.alloc hHeld.size _) (fun hHeld2 => ?_)
       clear hK K
       try simp only [Act.put, sA, s0, s1]
       generalize hW2 : World.alloc WZ _ = W2
       rw [hW2] at hHeld2
       generalize hq : WZ.heap.size = q9
       have hBn : Blk W2 q9 113 (dirC 0 none 0 0 none 0 0) := by rw [← hW2, ← hq]; exact Blk.new _ _ _
       have hLn := hHeld.size
       rw [hq] at hLn
       have hDM' : DM (fun b => wr.heap.size ≤ b ∧ b ≠ q9) W2 E xa E.ls.length xc ya E.rs.length yc := by rw [← hW2]; exact ((hDM.imp (K' := (fun b => wr.heap.size ≤ b ∧ b ≠ q9)) (fun b hb hk => by first | omega | (simp only at hk ⊢; omega) | (show _ ≠ _; omega) | (show _ ∧ _; omega)))).below ((Below.refl _ WZ).alloc (Nat.le_refl _) _)
       clear hW2 hq
       exact Ks1_9_R4 q9 xa xc ya yc W2 (hHeld2) (hBn) (hLn) (hDM')
      case ks1_9_R4 =>
       intro q9 xa xc ya yc WZ hHeld hB9 hL9 hDM
       refine Go.rd (rs := [10]) ?_
       refine AllReadyH.cons (o := ⟨none, .store 113 (.tmp 6) (.tmp 21), 0, "law.go:16", #[⟨9, .data⟩, ⟨7, .data⟩, ⟨5, .chain⟩, ⟨0, .phase⟩, ⟨1, .phase⟩, ⟨2, .phase⟩, ⟨3, .phase⟩, ⟨4, .phase⟩, ⟨5, .phase⟩, ⟨6, .phase⟩, ⟨7, .phase⟩, ⟨8, .textOnly .lateStores⟩, ⟨9, .phase⟩], none⟩) rfl (fun K hK => ?_) AllReadyH.nil
       obtain ⟨W3, hQ⟩ := put_row (ty := 113) hB9 (x := dirC E.priv xa E.ls.length xc ya E.rs.length yc) (rfl) (sizeDr) (dr_one _ _ _ _ _ _ _)
       have hHeld2 := below_grown hHeld hQ.grown hHeld.size hL9
       rw [if_pos (by rfl)]
       refine wp_store_mid 113 _ _ rfl q9 0 (dirC E.priv xa E.ls.length xc ya E.rs.length yc : List Value).toArray (by rfl) (by rfl) hQ.there hQ.info (by simpa using hQ.one) ?_
       generalize hWq : World.setCells _ _ _ _ = Wa
       obtain rfl : W3 = Wa := by rw [← hWq]; exact hQ.eq
       clear hWq
       refine hK.out _ _ hHeld2 (fun _ => ?_)
       clear hK K
       try simp only [Act.put]
       refine tQ 11 rfl hHeld2 ?_
       refine wpAnyH_done (by kernel_rfl) ?_ _
       exact KfinR4 q9 xa xc ya yc W3 (hHeld2) (hQ.blk) (hL9) (hDM.keep (Keeps.grown hQ.grown (fun b hb => hb.2)))
      case kfinR4 =>
       intro q9 xa xc ya yc WZ hHeld hB9 hL9 hDM
       have hbW := Lib.hid (hbr.out.trans (hHeld.mono (by omega)))
       have hBW := Lib.hid (hB.out.below hHeld hB.out.lt)
       have hXW := Lib.hid (hXb.out.below hHeld hXb.out.lt)
       have hq9 := Lib.hid hB9
       have hDW : Hid (DM (fun b => (K b ∧ b < tb) ∨ xb < b) WZ E xa E.ls.length xc ya E.rs.length yc) := hDM.imp (fun b _ h => .inr (by have := h.1; omega))
       clear hHeld hB9 hDM
       go_upto_region 7 with fail
       obtain ⟨V8, hP8⟩ := put_row (ty := 113) hBW.out (x := dirC E.priv xa E.ls.length xc ya E.rs.length yc) rfl sizeDr (dr_one _ _ _ _ _ _ _)
       have hP8' := Lib.hid hP8
       have hB8 := Lib.hid hP8.blk
       have hX8 := Lib.hid (hXW.out.grown hP8.grown (by intro e; injection e; omega))
       have hD8 : Hid (DM (fun b => (K b ∧ b < tb) ∨ xb < b) V8 E xa E.ls.length xc ya E.rs.length yc) := (hDW.out).keep (Keeps.grown hP8.grown (fun b hb e => by omega))
       have hb8 := Lib.hid (below_grown hbW.out hP8.grown (by have := hbW.out.size; omega) (Nat.le_refl _))
       have hg8 : Hid (Go.Dr.grownD 4 E (l.drop (k + 1)) = G) := hgr3
       have y0 := hq9.out.at_ (i := 0) (x := .int .i64 E.priv) rfl
       have y1 := hq9.out.at_ (i := 1) (x := .slice xa E.ls.length xc) rfl
       have y2 := hq9.out.at_ (i := 2) (x := .slice ya E.rs.length yc) rfl
       clear hP8 hBW hXW hbW hDW
       go_wp2_with (first
        | (refine wpList_store_mid (by rfl) 113 (.tmp 2) (.tmp 32) (by rfl) tb 0 (dirC E.priv xa E.ls.length xc ya E.rs.length yc).toArray (by rfl) (by rfl) hP8'.out.there hP8'.out.info (by simpa using hP8'.out.one) ?_
           generalize hWq : World.setCells _ _ _ _ = Wa
           obtain rfl : V8 = Wa := by rw [← hWq]; exact hP8'.out.eq
           clear hWq))
       go_roundw
       case rel => exact ⟨k + 1, E, xa, xc, ya, yc, by omega, by go_num, hB8, hX8, hD8, hg8, hb8⟩
       case measure => simp [intOf]; omega
    · obtain ⟨q, hq⟩ : ∃ q, Hid ((Go.Dr.setD 4 D2 x).2 = q) := ⟨_, rfl⟩
      have hq0 : q ≠ 0 := by rw [← hq.out]; exact hs0
      have hE : Go.Dr.setD 4 D2 x = ((Go.Dr.setD 4 D2 x).1, q) := by rw [← hq.out]
      have hgT : Go.Dr.growS 4 D2 x = if (Go.Dr.tickD 4 D2).2 = 0 then (Go.Dr.tickD 4 D2).1 else D2 := by unfold Go.Dr.growS; rw [if_neg hs0]
      rw [hgT] at hgr2
      have hqe : (q == 0) = false := by simpa using hq0
      have hqe2 : (q != 0) = true := by simpa using hq0
      refine share (G := ∀ (q9 : Nat) (WZ : World), (Below wr.heap.size wr WZ) → (Blk WZ q9 113 (zdV)) → (wr.heap.size ≤ q9) → (?GfinR4b : Nat → World → Prop) q9 WZ) ?hfinR4b ?kfinR4b
      case' hfinR4b =>
       intro KfinR4b
      case' hfinR4b =>
       refine share (G := ∀ (q9 : Nat) (WZ : World), (Below wr.heap.size wr WZ) → (Blk WZ q9 113 (dirC 0 none 0 0 none 0 0)) → (wr.heap.size ≤ q9) → (?Gs1_9_R4b : Nat → World → Prop) q9 WZ) ?hs1_9_R4b ?ks1_9_R4b
      case' hs1_9_R4b => intro Ks1_9_R4b
      case' hs1_9_R4b =>
       refine share (G := ∀ (WZ : World), (Below wr.heap.size wr WZ) → (?Gs1_R4b : World → Prop) WZ) ?hs1_R4b ?ks1_R4b
      case' hs1_R4b => intro Ks1_R4b
      case' hs1_R4b =>
       refine share (G := ∀ (q9 : Nat) (WZ : World), (Below wr.heap.size wr WZ) → (Blk WZ q9 113 (dirC 0 none 0 0 none 0 0)) → (wr.heap.size ≤ q9) → (?Gs0_9_R4b : Nat → World → Prop) q9 WZ) ?hs0_9_R4b ?ks0_9_R4b
      case' hs0_9_R4b => intro Ks0_9_R4b
      case hs0_9_R4b =>
       refine wp_region_held_drew (S := fun wz => Below wr.heap.size wr wz) (by kernel_rfl) ((Below.refl _ wr).drew) (fun hHeld => ?_)
       generalize wr.drew = WZ at *
       refine tX 0 rfl (fun wz hSw => And.intro ((hB.out.below hSw hB.out.lt).at_ (i := 0) (x := .int .i64 D2.priv) rfl) (And.intro ((hB.out.below hSw hB.out.lt).at_ (i := 1) (x := .slice la D2.ls.length lc) rfl) ((hB.out.below hSw hB.out.lt).at_ (i := 2) (x := .slice ra D2.rs.length rc) rfl))) hHeld ?_
       refine tQ 1 rfl hHeld ?_
       refine tQ 2 rfl hHeld ?_
       refine tX 3 rfl (fun wz hSw => And.intro (k0) (k1)) hHeld ?_
       refine tG 4 (v := ?_) rfl (Or.inl ⟨by rfl, ?_⟩) hHeld ?_
       rotate_left
       · intro wz hSw
         have l0 : wz.cell? ⟨b, off + k * 5, none⟩ = some (.int .i64 x.dev) := hxc0.out wz hSw
         have l1 : wz.cell? ⟨b, off + k * 5 + 1, none⟩ = some (.int .i64 x.ver) := hxc1.out wz hSw
         have l2 : wz.cell? ⟨b, off + k * 5 + 2, none⟩ = some (.int .i64 x.leaf) := hxc2.out wz hSw
         have l3 : wz.cell? ⟨b, off + k * 5 + 3, none⟩ = some (.int .i64 x.vers) := hxc3.out wz hSw
         have l4 : wz.cell? ⟨b, off + k * 5 + 4, none⟩ = some (.bool x.gone) := hxc4.out wz hSw
         go_simp
         all_goals (with_reducible rfl)
       try simp only [Act.put, sA, s0, s1]
       refine Go.rd (rs := [5, 9]) ?_
       refine tR rfl (fun K hK => ?_) (tR rfl (fun K hK => ?_) Go.rn)
       case refine_1 =>
        go_simp
        go_at_call 128
        refine (set_no hE hq0 hox.out (hTw.out _ (hbr.out.trans (hHeld.mono (by omega)))) ((hD.out.below hHeld).imp (fun _ _ _ => trivial))).mono ?_
        rintro e wq ⟨rfl, hst⟩


        refine hK.out _ _ (hHeld.trans (hst.mono hHeld.size)) (fun hHeld2 => ?_)
        clear hK K
        try simp only [Act.put, sA, s0, s1]
        refine tQ 6 rfl hHeld2 ?_
        refine tQ 7 rfl hHeld2 ?_
        refine tQ 8 rfl hHeld2 ?_
        exact Ks1_R4b  wq (hHeld2)
       case refine_2 =>
        go_simp
        refine hK.out _ _ (hHeld.alloc hHeld.size _) (fun hHeld2 => ?_)
        clear hK K
        try simp only [Act.put, sA, s0, s1]
        generalize hW2 : World.alloc WZ _ = W2
        rw [hW2] at hHeld2
        generalize hq : WZ.heap.size = q9
        have hBn : Blk W2 q9 113 (dirC 0 none 0 0 none 0 0) := by rw [← hW2, ← hq]; exact Blk.new _ _ _
        have hLn := hHeld.size
        rw [hq] at hLn
        clear hW2 hq
        exact Ks0_9_R4b q9 W2 (hHeld2) (hBn) (hLn)
      case ks0_9_R4b =>
       intro q9 WZ hHeld hB9 hL9
       refine tO 5 rfl (fun K hK => ?_)
       go_simp
       go_at_call 128
       refine (set_no hE hq0 hox.out (hTw.out _ (hbr.out.trans (hHeld.mono (by omega)))) ((hD.out.below hHeld).imp (fun _ _ _ => trivial))).mono ?_
       rintro e wq ⟨rfl, hst⟩


       refine hK.out _ _ (hHeld.trans (hst.mono hHeld.size)) (fun hHeld2 => ?_)
       clear hK K
       try simp only [Act.put, sA, s0, s1]
       refine tQ 6 rfl hHeld2 ?_
       refine tQ 7 rfl hHeld2 ?_
       refine tQ 8 rfl hHeld2 ?_
       exact Ks1_9_R4b q9 wq (hHeld2) (hB9.below hst hB9.lt) (hL9)
      case ks1_R4b =>
       intro  WZ hHeld
       refine tO 9 rfl (fun K hK => ?_)
       go_simp
       refine hK.out _ _ (hHeld.alloc hHeld.size _) (fun hHeld2 => ?_)
       clear hK K
       try simp only [Act.put, sA, s0, s1]
       generalize hW2 : World.alloc WZ _ = W2
       rw [hW2] at hHeld2
       generalize hq : WZ.heap.size = q9
       have hBn : Blk W2 q9 113 (dirC 0 none 0 0 none 0 0) := by rw [← hW2, ← hq]; exact Blk.new _ _ _
       have hLn := hHeld.size
       rw [hq] at hLn
       clear hW2 hq
       exact Ks1_9_R4b q9 W2 (hHeld2) (hBn) (hLn)
      case ks1_9_R4b =>
       intro q9 WZ hHeld hB9 hL9
       refine Go.rd (rs := [10]) ?_
       refine AllReadyH.cons (o := ⟨none, .store 113 (.tmp 6) (.tmp 21), 0, "law.go:16", #[⟨9, .data⟩, ⟨7, .data⟩, ⟨5, .chain⟩, ⟨0, .phase⟩, ⟨1, .phase⟩, ⟨2, .phase⟩, ⟨3, .phase⟩, ⟨4, .phase⟩, ⟨5, .phase⟩, ⟨6, .phase⟩, ⟨7, .phase⟩, ⟨8, .textOnly .lateStores⟩, ⟨9, .phase⟩], none⟩) rfl (fun K hK => ?_) AllReadyH.nil
       obtain ⟨W3, hQ⟩ := put_row (ty := 113) hB9 (x := zdV) (rfl) (sizeDr) (dr_one _ _ _ _ _ _ _)
       have hHeld2 := below_grown hHeld hQ.grown hHeld.size hL9
       rw [if_pos (by rfl)]
       refine wp_store_mid 113 _ _ rfl q9 0 (zdV : List Value).toArray (by rfl) (by rfl) hQ.there hQ.info (by simpa using hQ.one) ?_
       generalize hWq : World.setCells _ _ _ _ = Wa
       obtain rfl : W3 = Wa := by rw [← hWq]; exact hQ.eq
       clear hWq
       refine hK.out _ _ hHeld2 (fun _ => ?_)
       clear hK K
       try simp only [Act.put]
       refine tQ 11 rfl hHeld2 ?_
       refine wpAnyH_done (by kernel_rfl) ?_ _
       exact KfinR4b q9 W3 (hHeld2) (hQ.blk) (hL9)
      case kfinR4b =>
       intro q9 WZ hHeld hB9 hL9
       have hbW := Lib.hid (hbr.out.trans (hHeld.mono (by omega)))
       have hBW := Lib.hid (hB.out.below hHeld hB.out.lt)
       have hXW := Lib.hid (hXb.out.below hHeld hXb.out.lt)
       have hDW := Lib.hid (hD.out.below hHeld)
       have hKp : Keeps (fun b => ((K b ∧ b < tb) ∨ xb < b) ∧ b < wr.heap.size) wr WZ := Keeps.below hHeld
       have hq9 := Lib.hid hB9
       have y0 := hBW.out.at_ (i := 0) (x := .int .i64 D2.priv) rfl
       have y1 := hBW.out.at_ (i := 1) (x := .slice la D2.ls.length lc) rfl
       have y2 := hBW.out.at_ (i := 2) (x := .slice ra D2.rs.length rc) rfl
       clear hHeld hB9
       go_wp2_with fail
       by_cases ht0 : (Go.Dr.tickD 4 D2).2 = 0
       · obtain ⟨E, hT⟩ : ∃ E, Go.Dr.tickD 4 D2 = (E, 0) := ⟨(Go.Dr.tickD 4 D2).1, by rw [← ht0]⟩
         obtain ⟨hTl1, hTp1⟩ := tick_same hT
         have hTl := Lib.hid hTl1
         have hTp := Lib.hid hTp1
         clear hTl1 hTp1
         rw [if_pos ht0, hT] at hgr2
         have hgr3 := Lib.hid hgr2
         refine (tick_at hT hTl.out hTp.out (hTw.out _ hbW.out) (hDW.out.imp (fun _ _ _ => trivial))).mono ?_
         rintro e w8 ⟨ya, yc, rfl, hQ0, hst⟩
         have hst2 : Below WZ.heap.size WZ w8 := hst
         have hDE : DM (fun b => (K b ∧ b < tb) ∨ xb < b) w8 E la E.ls.length lc ya E.rs.length yc := ⟨by rw [hTp.out]; exact hDW.out.pr, by rw [hTl.out]; exact hDW.out.gs.below hst, hQ0.imp (fun b _ hb => .inr (by have := hXW.out.lt; omega))⟩
         obtain ⟨V9, hP9⟩ := put_row (ty := 113) (hq9.out.below hst hq9.out.lt) (x := dirC E.priv la E.ls.length lc ya E.rs.length yc) rfl sizeDr (dr_one _ _ _ _ _ _ _)
         have hP9' := Lib.hid hP9
         have hDE9 : DM (fun b => (K b ∧ b < tb) ∨ xb < b) V9 E la E.ls.length lc ya E.rs.length yc := ⟨hDE.pr, by rw [hTl.out]; exact ((hD.out.gs.imp (K' := fun b => ((K b ∧ b < tb) ∨ xb < b) ∧ b < wr.heap.size) (fun b hb h => ⟨h, hb⟩)).keep (hKp.trans ((Keeps.below hst2).trans (Keeps.grown hP9.grown (fun b hb e => by have := hb.2; omega))))).imp (fun b _ h => h.1), (hQ0.keep (Keeps.grown hP9.grown (fun b hb e => by have := hq9.out.lt; omega))).imp (fun b _ hb => .inr (by have := hXW.out.lt; omega))⟩
         replace hbW := Lib.hid (below_grown (hbW.out.trans (hst.mono (by have := hXW.out.lt; omega))) hP9.grown (by have := hbW.out.size; have := hst.size; have := hXW.out.lt; omega) (by omega))
         replace hBW := Lib.hid ((hBW.out.below hst hBW.out.lt).grown hP9.grown (by intro e; injection e; omega))
         replace hXW := Lib.hid ((hXW.out.below hst hXW.out.lt).grown hP9.grown (by intro e; injection e; omega))
         replace hq9 := Lib.hid hP9.blk
         replace hDW := Lib.hid hDE9
         clear hP9 hst hDE hDE9 hQ0 y0 y1 y2 hgr2 hqe hqe2
         go_upto_region 7 with (first
          | (refine wpList_store_mid (by rfl) 113 (.tmp 6) (.tmp 28) (by rfl) q9 0 (dirC E.priv la E.ls.length lc ya E.rs.length yc).toArray (by rfl) (by rfl) hP9'.out.there hP9'.out.info (by simpa using hP9'.out.one) ?_
             generalize hWq : World.setCells _ _ _ _ = Wa
             obtain rfl : V9 = Wa := by rw [← hWq]; exact hP9'.out.eq
             clear hWq))
         obtain ⟨V8, hP8⟩ := put_row (ty := 113) hBW.out (x := dirC E.priv la E.ls.length lc ya E.rs.length yc) rfl sizeDr (dr_one _ _ _ _ _ _ _)
         have hP8' := Lib.hid hP8
         have hB8 := Lib.hid hP8.blk
         have hX8 := Lib.hid (hXW.out.grown hP8.grown (by intro e; injection e; omega))
         have hD8 : Hid (DM (fun b => (K b ∧ b < tb) ∨ xb < b) V8 E la E.ls.length lc ya E.rs.length yc) := (hDW.out).keep (Keeps.grown hP8.grown (fun b hb e => by omega))
         have hb8 := Lib.hid (below_grown hbW.out hP8.grown (by have := hbW.out.size; omega) (Nat.le_refl _))
         have hg8 : Hid (Go.Dr.grownD 4 E (l.drop (k + 1)) = G) := hgr3
         have y0 := hq9.out.at_ (i := 0) (x := .int .i64 E.priv) rfl
         have y1 := hq9.out.at_ (i := 1) (x := .slice la E.ls.length lc) rfl
         have y2 := hq9.out.at_ (i := 2) (x := .slice ya E.rs.length yc) rfl
         clear hP8 hBW hXW hbW hDW
         go_wp2_with (first
          | (refine wpList_store_mid (by rfl) 113 (.tmp 2) (.tmp 32) (by rfl) tb 0 (dirC E.priv la E.ls.length lc ya E.rs.length yc).toArray (by rfl) (by rfl) hP8'.out.there hP8'.out.info (by simpa using hP8'.out.one) ?_
             generalize hWq : World.setCells _ _ _ _ = Wa
             obtain rfl : V8 = Wa := by rw [← hWq]; exact hP8'.out.eq
             clear hWq))
         go_roundw
         case rel => exact ⟨k + 1, E, la, lc, ya, yc, by omega, by go_num, hB8, hX8, hD8, hg8, hb8⟩
         case measure => simp [intOf]; omega
       · obtain ⟨q2, hq2⟩ : ∃ q, Hid ((Go.Dr.tickD 4 D2).2 = q) := ⟨_, rfl⟩
         have hq20 : q2 ≠ 0 := by rw [← hq2.out]; exact ht0
         have hT : Go.Dr.tickD 4 D2 = ((Go.Dr.tickD 4 D2).1, q2) := by rw [← hq2.out]
         rw [if_neg ht0] at hgr2
         have hgr3 : Hid (Go.Dr.grownD 4 D2 (l.drop (k + 1)) = G) := hgr2
         have hq2e : (q2 == 0) = false := by simpa using hq20
         refine (tick_no hT hq20 (hTw.out _ hbW.out) (hDW.out.imp (fun _ _ _ => trivial))).mono ?_
         rintro e w8 ⟨rfl, hst⟩
         have hst2 : Below WZ.heap.size WZ w8 := hst
         obtain ⟨V9, hP9⟩ := put_row (ty := 113) (hq9.out.below hst hq9.out.lt) (x := zdV) rfl sizeDr (dr_one _ _ _ _ _ _ _)
         have hP9' := Lib.hid hP9
         have hDE9 : DM (fun b => (K b ∧ b < tb) ∨ xb < b) V9 D2 la D2.ls.length lc ra D2.rs.length rc := ((hD.out.imp (K' := fun b => ((K b ∧ b < tb) ∨ xb < b) ∧ b < wr.heap.size) (fun b hb h => ⟨h, hb⟩)).keep (hKp.trans ((Keeps.below hst2).trans (Keeps.grown hP9.grown (fun b hb e => by have := hb.2; omega))))).imp (fun b _ h => h.1)
         replace hbW := Lib.hid (below_grown (hbW.out.trans (hst.mono (by have := hXW.out.lt; omega))) hP9.grown (by have := hbW.out.size; have := hst.size; have := hXW.out.lt; omega) (by omega))
         replace hBW := Lib.hid ((hBW.out.below hst hBW.out.lt).grown hP9.grown (by intro e; injection e; omega))
         replace hXW := Lib.hid ((hXW.out.below hst hXW.out.lt).grown hP9.grown (by intro e; injection e; omega))
         have hDW9 := Lib.hid hDE9
         clear hP9 hst hDE9 y0 y1 y2 hgr2 hqe hqe2 hDW
         go_wp2_with (first
          | (refine wpList_store_mid (by rfl) 113 (.tmp 6) (.tmp 28) (by rfl) q9 0 zdV.toArray (by rfl) (by rfl) hP9'.out.there hP9'.out.info (by simpa using hP9'.out.one) ?_
             generalize hWq : World.setCells _ _ _ _ = Wa
             obtain rfl : V9 = Wa := by rw [← hWq]; exact hP9'.out.eq
             clear hWq))
         go_roundw
         case rel => exact ⟨k + 1, D2, la, lc, ra, rc, by omega, by go_num, hBW, hXW, hDW9, hgr3, hbW⟩
         case measure => simp [intOf]; omega
  · obtain rfl : k = n := by omega
    have hgE : D2 = G := by rw [← hgr.out, List.drop_of_length_le (by omega)]; rfl
    subst hgE
    obtain ⟨V9, hP9⟩ := put_row (ty := 113) hXb.out (x := dirC D2.priv la D2.ls.length lc ra D2.rs.length rc) rfl sizeDr (dr_one _ _ _ _ _ _ _)
    have hP9' := Lib.hid hP9
    have hD9 : DM (fun b => (K b ∧ b < tb) ∨ tb ≤ b) V9 D2 la D2.ls.length lc ra D2.rs.length rc := (hD.out.keep (Keeps.grown hP9.grown (fun b hb e => by omega))).imp (fun b _ hb => hb.imp id (fun h => by omega))
    have hend := Lib.hid (hfin.out _ _ _ _ _ hD9 (below_grown hbr.out hP9.grown (by have := hbr.out.size; omega) (by omega)))
    have y0 := hB.out.at_ (i := 0) (x := .int .i64 D2.priv) rfl
    have y1 := hB.out.at_ (i := 1) (x := .slice la D2.ls.length lc) rfl
    have y2 := hB.out.at_ (i := 2) (x := .slice ra D2.rs.length rc) rfl
    clear hP9 hD9 hgr hfin
    go_wp2_with (first
     | (refine wpList_store_mid (by rfl) 113 (.tmp 4) (.tmp 33) (by rfl) xb 0 (dirC D2.priv la D2.ls.length lc ra D2.rs.length rc).toArray (by rfl) (by rfl) hP9'.out.there hP9'.out.info (by simpa using hP9'.out.one) ?_
        generalize hWq : World.setCells _ _ _ _ = Wa
        obtain rfl : V9 = Wa := by rw [← hWq]; exact hP9'.out.eq
        clear hWq))
    exact ret_cell (p := 4) rfl hP9'.out.blk Tryz.underlying113 rfl sizeDr rfl rfl hend.out
end Go.Proofs.YtlpgjdlkjahdgaaGreatDoor
namespace Go.Proofs.YtlpgjdlkjahdgaaGreatDoor
open Go.RowKit Go.Mem
open Go.Dr (Lst Rt Dir Wt)

end Go.Proofs.YtlpgjdlkjahdgaaGreatDoor
namespace Go.Dr
open Go.Proofs.YtlpgjdlkjahdgaaGreatDoor (pubB keyOk base_ok)

def exG : Lst := ⟨1, 4, 4, 1, false⟩
theorem acc_ins {b : Int} {w : Wt} {r : Rt} (H : WOk b w) (hr : properB b w.pub r = true) (hc : (confl w.rs r).2 = false) : accW b w r = (if metR r.no w.rs then w else ⟨w.pub, insR r w.rs⟩, zeroS, 0) := by
 unfold accW
 rw [if_pos (wchk_iff.2 H), if_pos hr, if_neg (by rw [hc]; simp)]
theorem acc_hist {b pub : Int} {R : List Rt} (H : Hist b pub R) {l : List Rt} {r : Rt} (hp : l.Pairwise (fun a c => a.no < c.no)) (hl : ∀ x ∈ l, x ∈ R) (hr : r ∈ R) (hm : ∀ x ∈ l, x.no ≠ r.no) : accW b ⟨pub, l⟩ r = (⟨pub, insR r l⟩, zeroS, 0) := by
 have hf : Free l := fun x hx y hy => hist_free H x (hl x hx) y (hl y hy)
 have hw : WOk b ⟨pub, l⟩ := ⟨fun x hx => hist_proper H (hl x hx), hp, hf⟩
 have hc : (confl l r).2 = false := confl_none fun x hx => ⟨hist_free H x (hl x hx) r hr, hist_free H r hr x (hl x hx)⟩
 rw [acc_ins hw (hist_proper H hr) hc, if_neg]
 intro hmet
 obtain ⟨x, hx, hxn⟩ := (metR_iff hp).1 hmet
 exact hm x hx hxn
theorem fits_exG : fitsB exG = true := by
 have h4 := base_ok
 unfold fitsB exG
 rw [h4]
 rfl
theorem zero_fits : fitsB zeroL = false := by unfold fitsB zeroL; simp
theorem grow_zero {b : Int} (hb : Grp.ok b = true) {D : Dir} (H : Hs b 5 D) (hn : D.rs.length < 65536) : growS b D zeroL = { D with rs := D.rs ++ [nextR b D] } ∧ Hs b 5 { D with rs := D.rs ++ [nextR b D] } := by
 have k5 : keyOk 5 = true := by decide
 have hs : setD b D zeroL = (zeroDir, 350) := by
  unfold setD
  rw [if_pos (by rw [H.priv]; exact k5), if_pos H.chk, if_neg (by rw [zero_fits]; simp)]
 have ht := hs_tick hb k5 H hn
 refine ⟨?_, ht.2⟩
 unfold growS
 rw [hs, ht.1, if_neg (by decide), if_pos rfl]
theorem grow_exG {b : Int} (hb : Grp.ok b = true) {D : Dir} (H : Hs b 5 D) (hl : D.ls = []) (hn : D.rs.length < 65536) :
 growS b D exG = ⟨D.priv, [exG], D.rs ++ [nextR b ⟨D.priv, [exG], D.rs⟩]⟩ ∧ Hs b 5 ⟨D.priv, [exG], D.rs ++ [nextR b ⟨D.priv, [exG], D.rs⟩]⟩ := by
 have k5 : keyOk 5 = true := by decide
 obtain ⟨p, ls, rs⟩ := D
 simp only at hl
 subst hl
 obtain rfl : p = 5 := H.priv
 have hc : chkL [exG] = true := chk_insL (l := []) fits_exG rfl
 have hs : setD b ⟨5, [], rs⟩ exG = (⟨5, [exG], rs ++ [nextR b ⟨5, [exG], rs⟩]⟩, 0) := by
  unfold setD
  rw [if_pos k5, if_pos (show chkL [] = true from rfl), if_pos (by rw [fits_exG]; rfl)]
  exact tick_ok (D := ⟨5, [exG], rs⟩) k5 hc hn
 refine ⟨by unfold growS; rw [hs, if_pos rfl], ?_⟩
 rcases hs_set hb k5 H hn exG with e | ⟨E, e, hE, _⟩
 · rw [hs] at e; simp at e
 · rw [hs] at e
   simp only [Prod.mk.injEq, and_true] at e
   rw [e]; exact hE
structure Gex (b pub : Int) (r0 r1 r2 o3 s3 : Rt) : Prop where
 g1 : grownD b ⟨5, [], []⟩ [zeroL, zeroL, zeroL] = ⟨5, [], [r0, r1, r2]⟩
 g2 : grownD b ⟨5, [], [r0, r1, r2]⟩ [exG] = ⟨5, [exG], [r0, r1, r2, o3]⟩
 g3 : grownD b ⟨5, [], [r0, r1, r2]⟩ [zeroL] = ⟨5, [], [r0, r1, r2, s3]⟩
 a0 : accW b ⟨pub, []⟩ r0 = (⟨pub, [r0]⟩, zeroS, 0)
 a1 : accW b ⟨pub, [r0]⟩ r2 = (⟨pub, [r0, r2]⟩, zeroS, 0)
 a2 : accW b ⟨pub, [r0, r2]⟩ r1 = (⟨pub, [r0, r1, r2]⟩, zeroS, 0)
 a3 : accW b ⟨pub, [r0, r1, r2]⟩ o3 = (⟨pub, [r0, r1, r2, o3]⟩, zeroS, 0)
 a4 : accW b ⟨pub, [r0, r1, r2, o3]⟩ s3 = (⟨pub, [r0, r1, r2, o3]⟩, (o3, s3), 361)
 p1 : proveS b pub (o3, s3) = 0
 p2 : proveS b pub (r0, r0) = 361
theorem acc_zero (b : Int) : accW b ⟨0, []⟩ zeroR = (zeroW, zeroS, 360) := by
 have hp : properB b 0 zeroR = false := by
  unfold properB signedB zeroR
  rw [decide_eq_false (by show ¬ (1 ≤ (0 : Int) ∧ (0 : Int) ≤ 65536); omega)]; rfl
 unfold accW
 rw [if_pos (wchk_iff.2 (acc_new b 0))]
 show (if properB b 0 zeroR = true then _ else _) = _
 rw [if_neg (by rw [hp]; simp)]
theorem cmp_zero (b : Int) : cmpW b ⟨0, []⟩ ⟨0, []⟩ = (zeroS, false) := by
 rw [cmp_ok (acc_new b 0) (acc_new b 0) rfl]; rfl
theorem prove_zero (b : Int) : proveS b 0 zeroS = 361 := by
 have hp : properB b 0 zeroR = false := by
  unfold properB signedB zeroR
  rw [decide_eq_false (by show ¬ (1 ≤ (0 : Int) ∧ (0 : Int) ≤ 65536); omega)]; rfl
 unfold proveS proveB zeroS
 simp only [hp, Bool.false_and]
 rfl
theorem gex_there {b : Int} (hb : Grp.ok b = true) : ∃ r0 r1 r2 o3 s3, Gex b (pubB b 5) r0 r1 r2 o3 s3 := by
 obtain ⟨e0, h0⟩ := grow_zero hb (D := ⟨5, [], []⟩) (hs_new b 5) (by simp)
 obtain ⟨r0, hr0⟩ : ∃ r, nextR b ⟨5, [], []⟩ = r := ⟨_, rfl⟩
 simp only [hr0, List.nil_append] at e0 h0
 obtain ⟨e1, h1⟩ := grow_zero hb h0 (by simp)
 obtain ⟨r1, hr1⟩ : ∃ r, nextR b ⟨5, [], [r0]⟩ = r := ⟨_, rfl⟩
 simp only [hr1, List.cons_append, List.nil_append] at e1 h1
 obtain ⟨e2, h2⟩ := grow_zero hb h1 (by simp)
 obtain ⟨r2, hr2⟩ : ∃ r, nextR b ⟨5, [], [r0, r1]⟩ = r := ⟨_, rfl⟩
 simp only [hr2, List.cons_append, List.nil_append] at e2 h2
 obtain ⟨e3, h3⟩ := grow_zero hb h2 (by simp)
 have hsd : (nextR b ⟨5, [], [r0, r1, r2]⟩).dig = rootD [] := rfl
 obtain ⟨s3, hs3⟩ : ∃ r, nextR b ⟨5, [], [r0, r1, r2]⟩ = r := ⟨_, rfl⟩
 rw [hs3] at hsd
 simp only [hs3, List.cons_append, List.nil_append] at e3 h3
 obtain ⟨e4, h4⟩ := grow_exG hb h2 rfl (by simp)
 have hod : (nextR b ⟨5, [exG], [r0, r1, r2]⟩).dig = rootD [exG] := rfl
 obtain ⟨o3, ho3⟩ : ∃ r, nextR b ⟨5, [exG], [r0, r1, r2]⟩ = r := ⟨_, rfl⟩
 rw [ho3] at hod
 simp only [ho3, List.cons_append, List.nil_append] at e4 h4
 clear hr0 hr1 hr2 hs3 ho3
 have H2 : Hist b (pubB b 5) [r0, r1, r2] := h2.hist
 have H3 : Hist b (pubB b 5) [r0, r1, r2, s3] := h3.hist
 have H4 : Hist b (pubB b 5) [r0, r1, r2, o3] := h4.hist
 have n0 : r0.no = 1 := (H4 0 r0 rfl).1
 have n1 : r1.no = 2 := (H4 1 r1 rfl).1
 have n2 : r2.no = 3 := (H4 2 r2 rfl).1
 have n3 : o3.no = 4 := (H4 3 o3 rfl).1
 have n4 : s3.no = 4 := (H3 3 s3 rfl).1
 have hne : o3 ≠ s3 := fun e => roots_differ (by rw [← hsd, ← e]; exact hod)
 have hct : contraB o3 s3 = true := (contra_same (by omega)).2 hne
 have po3 : properB b (pubB b 5) o3 = true := hist_proper H4 (by simp)
 have ps3 : properB b (pubB b 5) s3 = true := hist_proper H3 (by simp)
 refine ⟨r0, r1, r2, o3, s3, ⟨?_, ?_, ?_, ?_, ?_, ?_, ?_, ?_, prove_mk po3 ps3 hct, ?_⟩⟩
 · simp only [grownD, e0, e1, e2]
 · simp only [grownD, e4]
 · simp only [grownD, e3]
 · rw [acc_hist H2 List.Pairwise.nil (by simp) (by simp) (by simp)]; rfl
 · rw [acc_hist H2 (by simp) (by simp) (by simp) (by simp; omega)]
   simp [insR, posR, List.findIdx_cons, n0, n2]
 · rw [acc_hist H2 (by simp; omega) (by simp) (by simp) (by simp; omega)]
   simp [insR, posR, List.findIdx_cons, n0, n1, n2]
 · rw [acc_hist H4 (by simp; omega) (by simp) (by simp) (by simp; omega)]
   simp [insR, posR, List.findIdx_cons, n0, n1, n2, n3]
 · have hw : WOk b ⟨pubB b 5, [r0, r1, r2, o3]⟩ := ⟨fun x hx => hist_proper H4 hx, by simp; omega, hist_free H4⟩
   have hcf : confl [r0, r1, r2, o3] s3 = ((o3, s3), true) := by
    have hp : posR s3.no [r0, r1, r2, o3] = 3 := by simp [posR, List.findIdx_cons, n0, n1, n2, n3, n4]
    unfold confl
    rw [hp]
    unfold conflM
    simp only [List.getElem?_cons_succ, List.getElem?_cons_zero]
    rw [if_pos (by omega), hct]
   unfold accW
   rw [if_pos (wchk_iff.2 hw)]
   simp only [hcf, ps3, if_true]
 · unfold proveS proveB
   simp only [contra_self, Bool.and_false]
   rfl
end Go.Dr
namespace Go.Proofs.YtlpgjdlkjahdgaaGreatDoor
open Go.RowKit Go.Mem
open Go.Dr (Lst Rt Dir Wt)

section
variable {H : Type} {enc : TypeId × Value → H} {W : World}
theorem cellsSp : Tryz.prog.cellsOf 64 = 134 := by kernel_rfl
theorem open_sp {fuel : Nat} {cs : List Value} {x : DataW H × List MemPlace} (h : DataW.trod enc Tryz.prog W 0 (fun _ => true) true fuel 64 cs = some x) : ∃ s : Rt × Rt, OkS s ∧ cs = spC s := by
 obtain ⟨xs, n, _, rfl, hl, hlen, hf⟩ := DataW.trod_struct Tryz.underlying64 h
 rw [cellsSp] at hl
 match xs, hlen with
 | [y0, y1], _ =>
  have h0 : DataW.trod enc Tryz.prog W 0 (fun _ => true) true n 62 ((cs.drop 0).take (Tryz.prog.cellsOf 62)) = some y0 := hf 0 _ rfl
  rw [cellsRt] at h0
  have h1 : DataW.trod enc Tryz.prog W 0 (fun _ => true) true n 62 ((cs.drop 67).take (Tryz.prog.cellsOf 62)) = some y1 := hf 1 _ rfl
  rw [cellsRt] at h1
  obtain ⟨A, hA, e0⟩ := open_rt h0
  obtain ⟨C, hC, e1⟩ := open_rt h1
  have q134 : cs.drop 134 = [] := List.drop_eq_nil_of_le (by omega)
  have q67 : cs.drop 67 = rC C := by rw [drop_parts cs 67 67 134 rfl, e1, q134, List.append_nil]
  have q0 : cs.drop 0 = rC A ++ rC C := by rw [drop_parts cs 0 67 67 rfl, e0, q67]
  exact ⟨(A, C), ⟨hA, hC⟩, q0⟩
end
end Go.Proofs.YtlpgjdlkjahdgaaGreatDoor

