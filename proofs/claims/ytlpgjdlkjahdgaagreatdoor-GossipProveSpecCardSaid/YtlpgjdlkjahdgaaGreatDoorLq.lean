/- the reference 36: Prove the law GossipProveSpec walked -/
import Derived.Test.YtlpgjdlkjahdgaaGreatDoorAl
import Derived.Test.YtlpgjdlkjahdgaaGreatDoorFo
import Derived.Test.YtlpgjdlkjahdgaaGreatDoorGb
import Derived.Test.YtlpgjdlkjahdgaaGreatDoorGe
import Derived.Test.YtlpgjdlkjahdgaaGreatDoorGc
import Derived.Test.YtlpgjdlkjahdgaaGreatDoorCards
import Derived.Test.YtlpgjdlkjahdgaaGreatDoorTie
import Derived.SevenTiedAt
import Derived.Deep.DeepHandedRow
import Derived.Deep.DeepWitnessRowRef
namespace Go.Proofs.YtlpgjdlkjahdgaaGreatDoor
open Go.RowKit Go.Mem
open Go.Dr (Lst Rt Dir Wt)

set_option maxRecDepth 20000 in
set_option maxHeartbeats 4000000 in
theorem r36prove_any (pub : Int) (s : Rt × Rt) (hs : OkS s) (w : World) :
 Calls Tryz.prog 36 #[.int .i64 pub, .agg (spC s).toArray] w (RetI (Go.Dr.proveS 4 pub s) w) := by
 obtain ⟨A, C⟩ := s
 have ha' : Hid (OkQ A) := hs.a
 have hc' : Hid (OkQ C) := hs.b
 clear hs
 obtain ⟨tb, htb⟩ : ∃ tb, Hid (w.heap.size = tb) := ⟨_, rfl⟩
 obtain ⟨W0, hW0⟩ : ∃ W, Hid (w.alloc (.cells (spC (A, C)).toArray 64) = W) := ⟨_, rfl⟩
 have hB : Hid (Blk W0 tb 64 (spC (A, C))) := by rw [← hW0.out, ← htb.out]; exact Blk.new w _ (spC (A, C))
 have hb : Hid (Below w.heap.size w W0) := by rw [← hW0.out]; exact (Below.refl _ w).alloc (Nat.le_refl _) _
 have hra0 : Hid (∀ W, Below W0.heap.size W0 W → W.rangeAt tb 0 (rC A)) := fun W h j u hj => (hB.out.below h hB.out.lt).at_ (by
  unfold spC
  rw [Nat.zero_add, List.getElem?_append_left (List.getElem?_eq_some_iff.1 hj).1]
  exact hj)
 have hrb0 : Hid (∀ W, Below W0.heap.size W0 W → W.rangeAt tb 67 (rC C)) := fun W h j u hj => (hB.out.below h hB.out.lt).at_ (by
  unfold spC
  rw [List.getElem?_append_right (by rw [rC_length ha'.out]; omega), rC_length ha'.out, Nat.add_sub_cancel_left]
  exact hj)
 have hia : Hid ((Tryz.prog.info? 62).map (·.size) = some (rC A).length) := by show _ = _; rw [rC_length ha'.out]; exact sizeR
 have hib : Hid ((Tryz.prog.info? 62).map (·.size) = some (rC C).length) := by show _ = _; rw [rC_length hc'.out]; exact sizeR
 have hpr1 := Lib.hid (fun W => r36proper_any A ha'.out pub W)
 have hpr2 := Lib.hid (fun W => r36proper_any C hc'.out pub W)
 have hct := Lib.hid (fun h1 W => r36contra_any A C ha'.out hc'.out h1 W)
 have hno : Hid (Go.Dr.properB 4 pub C = true → 1 ≤ C.no) := fun h => (Go.Dr.proper_no h).1
 obtain ⟨X, hX⟩ : ∃ X, X = RetI (Go.Dr.proveS 4 pub (A, C)) w := ⟨_, rfl⟩
 have hf1 : Hid (∀ W, Below W0.heap.size W0 W → Go.Dr.properB 4 pub A = true → Go.Dr.properB 4 pub C = true → Go.Dr.contraB A C = true → X (.returned (.int .i64 0)) W) := fun W h1 h2 h3 h4 => by
  rw [hX]; exact ⟨by rw [Go.Dr.prove_mk h2 h3 h4], hb.out.trans (h1.mono hb.out.size)⟩
 have hf2 : Hid (∀ W, Below W0.heap.size W0 W → (Go.Dr.properB 4 pub A && Go.Dr.properB 4 pub C && Go.Dr.contraB A C) = false → X (.returned (.int .i64 361)) W) := fun W h1 h2 => by
  rw [hX]; exact ⟨by unfold Go.Dr.proveS Go.Dr.proveB; simp only; rw [h2]; rfl, hb.out.trans (h1.mono hb.out.size)⟩
 rw [← hX]
 clear hX
 obtain ⟨S1, hS1⟩ : ∃ S, Hid (Go.Dr.properB 4 pub A = S) := ⟨_, rfl⟩
 obtain ⟨S2, hS2⟩ : ∃ S, Hid (Go.Dr.properB 4 pub C = S) := ⟨_, rfl⟩
 obtain ⟨S3, hS3⟩ : ∃ S, Hid (Go.Dr.contraB A C = S) := ⟨_, rfl⟩
 rw [hS1.out] at hf1 hf2 hpr1
 rw [hS2.out] at hf1 hf2 hpr2 hno
 rw [hS3.out] at hf1 hf2 hct
 obtain ⟨ra, hra⟩ : ∃ r, Hid (rC A = r) := ⟨_, rfl⟩
 obtain ⟨rb, hrb⟩ : ∃ r, Hid (rC C = r) := ⟨_, rfl⟩
 obtain ⟨sp, hsp⟩ : ∃ r, Hid (spC (A, C) = r) := ⟨_, rfl⟩
 rw [hra.out] at hra0 hia hpr1 hct
 rw [hrb.out] at hrb0 hib hpr2 hct
 rw [hsp.out] at hW0 hB ⊢
 have hr0 := Lib.hid (hra0.out W0 (Below.refl _ _))
 clear hsp hra hrb ha' hc' hB hb hS1 hS2 hS3
 go_enter Tryz.func36, Tryz.ntmps36
 go_wp2_with (first
  | (rw [hW0.out, htb.out])
   | (refine wpList_load_mid (by rfl) 62 (.tmp 6) (by rfl) tb 0 (by rfl) ra _ hr0.out Tryz.underlying62 (by rfl) hia.out ?_))
 refine (hpr1.out W0).mono ?_
 rintro e w1 ⟨rfl, hb1⟩
 have hr1 := Lib.hid (hrb0.out w1 hb1)
 cases S1 with
 | false =>
  have hend := Lib.hid (hf2.out w1 hb1 rfl)
  clear hb1
  go_wp2_with fail
  exact hend.out
 | true =>
  have hb1' := Lib.hid hb1
  clear hb1
  go_wp2_with (first
   | (refine wpList_load_gd (by rfl) 62 (.tmp 12) (by rfl) tb 67 (by rfl) rb _ hr1.out Tryz.underlying62 (by rfl) hib.out ?_))
  refine (hpr2.out w1).mono ?_
  rintro e w2 ⟨rfl, hb2⟩
  have hb3 := hb1'.out.trans (hb2.mono hb1'.out.size)
  have hr2 := Lib.hid (hra0.out w2 hb3)
  have hr3 := Lib.hid (hrb0.out w2 hb3)
  cases S2 with
  | false =>
   have hend := Lib.hid (hf2.out w2 hb3 rfl)
   clear hb2 hb3
   go_wp2_with fail
   exact hend.out
  | true =>
   have hb3' := Lib.hid hb3
   have hct2 := Lib.hid (hct.out (hno.out rfl) w2)
   clear hb2 hb3 hct hno
   go_wp2_with (first
    | (refine wpList_load_gd (by rfl) 62 (.tmp 18) (by rfl) tb 0 (by rfl) ra _ hr2.out Tryz.underlying62 (by rfl) hia.out ?_)
     | (refine wpList_load_gd (by rfl) 62 (.tmp 20) (by rfl) tb 67 (by rfl) rb _ hr3.out Tryz.underlying62 (by rfl) hib.out ?_))
   refine hct2.out.mono ?_
   rintro e w4 ⟨rfl, hb4⟩
   have hb5 := hb3'.out.trans (hb4.mono hb3'.out.size)
   cases S3 with
   | false =>
    have hend := Lib.hid (hf2.out w4 hb5 rfl)
    clear hb4 hb5
    go_wp2_with fail
    exact hend.out
   | true =>
    have hend := Lib.hid (hf1.out w4 hb5 (by trivial) (by trivial) (by trivial))
    clear hb4 hb5
    go_wp2_with fail
    exact hend.out
end Go.Proofs.YtlpgjdlkjahdgaaGreatDoor
namespace Go.Proofs.YtlpgjdlkjahdgaaGreatDoor
open Go.RowKit Go.Mem
open Go.Dr (Lst Rt Dir Wt)

def SqW (w : World) (tb : Nat) (r : List Value) (wz : World) : Prop := Blk wz tb 64 r ∧ tb < wz.heap.size ∧ Below w.heap.size w wz
theorem SqW.drew {w wz : World} {tb : Nat} {r : List Value} (h : SqW w tb r wz) : SqW w tb r wz.drew := ⟨h.1, h.2.1, h.2.2.drew⟩
theorem SqW.next {w wz wq : World} {tb : Nat} {r : List Value} (hb : Below wz.heap.size wz wq) (h : SqW w tb r wz) : SqW w tb r wq := ⟨h.1.below hb h.2.1, Nat.lt_of_lt_of_le h.2.1 hb.size, h.2.2.trans (hb.mono h.2.2.size)⟩
set_option maxRecDepth 100000 in
set_option maxHeartbeats 8000000 in
theorem gprovespec_walk (pub : Int) (hp : I64 pub) (s : Rt × Rt) (hs : OkS s) (w : World) (HT : Tabs w) :
 Calls Tryz.prog 6 #[.int .i64 pub, .agg (spC s).toArray] w (RetBo true w) := by
 have HT' := Lib.hid HT; have hs' := Lib.hid hs; have hp' := Lib.hid hp
 obtain ⟨ra, hra⟩ : ∃ ra, Hid (spC s = ra) := ⟨_, rfl⟩
 have z0 : (Tryz.prog.info? 64).map (·.size) = some ra.length := by rw [← hra.out]; exact sizeSp' hs
 obtain ⟨X, hX⟩ : ∃ X, X = RetBo true w := ⟨_, rfl⟩
 have hfin : Hid (∀ W, Below w.heap.size w W → X (.returned (.bool true)) W) := fun W hb => by rw [hX]; exact ⟨rfl, hb⟩
 rw [← hX]
 clear hX HT hs hp
 obtain ⟨tb, htb⟩ : ∃ tb, Hid (w.heap.size = tb) := ⟨_, rfl⟩
 have h1 := Lib.hid (fun W (h : Tabs W) => gprove_any pub hp'.out s hs'.out W h)
 have h2 := Lib.hid (fun W => r36prove_any pub s hs'.out W)
 obtain ⟨V, hV⟩ : ∃ V, Hid (Go.Dr.proveS 4 pub s = V) := ⟨_, rfl⟩
 rw [hV.out] at h1 h2
 clear hV
 rw [hra.out] at h1 h2 ⊢
 go_enter Tryz.func6, Tryz.ntmps6
 go_upto_region 1 with fail
 rw [htb.out]
 generalize hW : World.alloc _ _ = W
 have hM : Hid (SqW w tb ra W) := by rw [← hW, ← htb.out]; exact ⟨Blk.new w _ ra, by simp, (Below.refl _ w).alloc (Nat.le_refl _) _⟩
 clear hW
 go_wp2_with fail
 refine (sane36_any W (HT'.out.below hM.out.2.2)).mono ?_
 rintro e w1 ⟨rfl, hb1⟩
 have hM1 := Lib.hid (hM.out.next hb1)
 clear hM hb1
 go_wp2_with fail
 refine wp_region_held_drew (S := fun wz => SqW w tb ra wz) (by kernel_rfl) (hM1.out.drew) (fun hHeld => ?_)
 generalize w1.drew = W0 at *
 refine tQ 0 rfl hHeld ?_
 refine tQ 3 rfl hHeld ?_
 refine tY 1 rfl tb 0 (ra) (fun wz h => h.1.range) Tryz.underlying64 z0 hHeld ?_
 refine tY 4 rfl tb 0 (ra) (fun wz h => h.1.range) Tryz.underlying64 z0 hHeld ?_
 refine tO 2 rfl (fun K hK => ?_)
 go_simp
 go_at_call 35
 refine (h1.out W0 (HT'.out.below hHeld.2.2)).mono ?_
 rintro e W1 ⟨rfl, hb1⟩
 refine hK.out _ _ (hHeld.next hb1) (fun hHeld2 => ?_)
 clear hb1
 clear hHeld
 have hHeld := hHeld2
 clear hHeld2
 clear hK K
 try simp only [Act.put, sA, s0, s1]
 refine tO 5 rfl (fun K hK => ?_)
 go_simp
 go_at_call 36
 refine (h2.out W1).mono ?_
 rintro e W2 ⟨rfl, hb2⟩
 refine hK.out _ _ (hHeld.next hb2) (fun hHeld2 => ?_)
 clear hb2
 clear hHeld
 have hHeld := hHeld2
 clear hHeld2
 clear hK K
 try simp only [Act.put, sA, s0, s1]
 refine tQ 6 rfl hHeld ?_
 refine tQ 7 rfl hHeld ?_
 refine wpAnyH_done (by kernel_rfl) ?_ _
 have hend := Lib.hid (hfin.out W2 hHeld.2.2)
 clear hHeld
 go_wp2_with fail
 exact hend.out
end Go.Proofs.YtlpgjdlkjahdgaaGreatDoor
namespace Go.Proofs.YtlpgjdlkjahdgaaGreatDoor.lawGProveSpec
open Go.ChangeShapes Go.WideShapes Go.ChangeAt Go.RowKit Go.Mem
open Go.Proofs.YtlpgjdlkjahdgaaGreatDoor

set_option maxRecDepth 100000 in
theorem lifted (os : Os) (started : os.Started) (H : Type) (enc : TypeId × Value → H) :
 ReturnsInHanded {} Tryz.checked os 6 .any (fun w args => (Rows.gossipProveSpecSpec.pre enc Tryz.prog Tryz.f6 [] false w args ∧ laidMetH Tryz.prog laid2 w) ∧ sizedMet enc Tryz.prog Tryz.f6 (OpenSpec.ofChange Rows.gossipProveSpecSpec) false w args)
  (Rows.gossipProveSpecSpec.post enc Tryz.prog Tryz.f6 false true false false) := by
 refine returnsInHanded_of_change_and (C := Tryz.checked) (X := fun w _ => laidMetH Tryz.prog laid2 w) (fun _ _ _ hh h => h.of_heap hh) own started (by kernel_rfl) Tryz.func6
  (ChangeSpec.witness_shaped (enc := enc) (C := Tryz.checked) (os := os) (X := fun w _ => laidMetH Tryz.prog laid2 w) false (World.doorLaid Tryz.prog 400 os) #[.int .i64 0, .agg (spC Go.Dr.zeroS).toArray] 8 rfl (World.shaped_of_RefB (by kernel_rfl) (by kernel_rfl)) (by kernel_rfl) (by kernel_rfl) (by kernel_rfl) (door_met os _)) ?_
 intro W base args ds gs before hval0 hW _ hwt hL _
 have hval : ∀ (j : Nat) t v, Tryz.f6.params[j]? = some t → args[j]? = some v → Value.okWide Tryz.prog W .any base t v := hval0
 have hW' := hW
 obtain ⟨p, q, hA0, hV, rfl, hfz, hnd⟩ := hW
 have hA : DataW.TrodAll enc Tryz.prog W 0 (fun _ => true) true Tryz.f6.params.toList args.toList ds p := hA0
 rw [Tryz.params6] at hA hval
 obtain ⟨v0, vs0, d0, ds0, p0, q0, hargs, rfl, rfl, h0, r0⟩ := trodAll_cons hA
 obtain ⟨v1, vs1, d1, ds1, p1, q1, rfl, rfl, rfl, h1, r1⟩ := trodAll_cons r0
 obtain ⟨rfl, rfl, rfl⟩ := trodAll_nil r1
 obtain rfl : args = #[v0, v1] := by cases args; simp_all
 obtain ⟨rfl, rfl⟩ := trodVars_none hV
 have lt0 : ∀ x ∈ p0, x.block < W.heap.size := by obtain ⟨m, hm⟩ := h0; exact DataW.trod_lt m _ _ _ hm
 have lt1 : ∀ x ∈ p1, x.block < W.heap.size := by obtain ⟨m, hm⟩ := h1; exact DataW.trod_lt m _ _ _ hm
 have k0' := h0
 have k1' := h1
 obtain ⟨x0, rfl⟩ := okWide_int Tryz.underlying3 (hval 0 3 v0 rfl rfl)
 obtain ⟨m0, hm0⟩ := h0
 obtain ⟨x0', e0, i0⟩ := open_int1 (cs := [.int .i64 x0]) (by simpa [Value.cells] using hm0)
 obtain rfl : x0 = x0' := by simpa using e0
 clear hm0 e0
 obtain ⟨cs1, rfl, _⟩ := okWide_struct Tryz.underlying64 (hval 1 64 v1 rfl rfl)
 obtain ⟨m1, hm1⟩ := h1
 obtain ⟨y1, ok1, e1⟩ := open_sp (cs := cs1.toList) (by simpa [Value.cells] using hm1)
 obtain rfl : cs1 = (spC y1).toArray := by rw [← e1]
 clear hm1 e1
 have hT := tabs_of_laid hL
 clear hA0 hval0
 refine (gprovespec_walk x0 i0 y1 ok1 W hT).mono fun e W' ⟨he, bel⟩ => ?_
 subst he
 exact ⟨_, rfl, _, _, _, [], _, [], hW', trodAll_mk1 (shut_bool Tryz.underlying4 _),
  (trodAll_cons_mk (Below.trod laidOut (by kernel_rfl) (of_decide_eq_true (by kernel_rfl)) k0' bel lt0) (trodAll_cons_mk (Below.trod laidOut (by kernel_rfl) (of_decide_eq_true (by kernel_rfl)) k1' bel lt1) trodAll_mk0)), rfl, bel.frame _, fun h => by cases h⟩

theorem over : Rows.GossipProveSpecSaid :=
 OpenClaim.holds_of_wide 6 Tryz.f6 rfl rfl rfl rfl rfl rfl rfl ⟨rfl, rfl, rfl, rfl, rfl⟩ rfl rfl rfl rfl rfl (by kernel_rfl) Tryz.func6 (by kernel_rfl)
  (of_decide_eq_true (by kernel_rfl)) (by unfold Func.isWrapper; first | (rw [if_pos (by decide +kernel)]; kernel_rfl) | (rw [if_neg (by decide +kernel)]; exact ⟨rfl, rfl⟩))
  (fun os started H enc _ => lifted os started H enc)

theorem proved : Rows.GossipProveSpecCardSaid :=
 Claim7.holds_tied_plain_at .later [] [.data, .data, .sentinel] true (true, "0e71b2c2558acfe1f4ed3f440e2dab26401bb835ffca5b2d0e5c9d75e6479122") false
  over (fun _ h => by cases h) (by kernel_rfl) (fun _ h => by cases h) gossipProveSpec_row_tie rfl ⟨rfl, rfl⟩ (by kernel_rfl) rfl
  (fun f fn hf hfn => by
    obtain rfl : f = 6 := Option.some.inj ((show Tryz.prog.funcNamed "chartroom/chartroomlaw36.GossipProveSpec" = some 6 by kernel_rfl).symm.trans hf) |>.symm
    obtain rfl : fn = Tryz.f6 := (Option.some.inj (Tryz.func6.symm.trans hfn)).symm
    exact ⟨by kernel_rfl, fun j t ht => by
     rw [Tryz.params6] at ht
     have hm : t ∈ [3, 64] := by simpa using Array.mem_of_getElem? ht
     have hall : ([3, 64].all fun u => !Tryz.prog.wantsStandIn u) = true := by kernel_rfl
     exact (show Tryz.prog.wantsStandIn t = false by simpa using List.all_eq_true.1 hall t hm)⟩)
  (by kernel_rfl)
#print axioms proved
end Go.Proofs.YtlpgjdlkjahdgaaGreatDoor.lawGProveSpec
