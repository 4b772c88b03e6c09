/- the reference 30: Sign; store.Sign where open fails -/
import Derived.Test.YtnonfdcbnkdmcaaGreatDoorAl
import Derived.Test.YtnonfdcbnkdmcaaGreatDoorRsH
import Derived.Test.YtnonfdcbnkdmcaaGreatDoorRsD
namespace Go.Proofs.YtnonfdcbnkdmcaaGreatDoor
open Go.RowKit Go.Mem
open Go.Sto (Ent Lg St)
section
variable {w wz wq : World} {sb n c : Nat} {s : St} {a : Option Addr}
theorem SghW.grow {g : Nat} (h : SghW w sb s a n c wz) (hg : wz.grownBy wq (some g)) (hw : w.heap.size ≤ g) (hs : sb + 1 < g) : SghW w sb s a n c wq := by
 obtain ⟨r, hr, hl⟩ := h.hd
 exact ⟨h.st.grown hg (fun e => by injection e with e; omega), ⟨r, hr.grown hg (fun e => by injection e with e; omega), hl⟩, below_grown h.bel hg h.bel.size hw⟩
theorem SghW.drew (h : SghW w sb s a n c wz) : SghW w sb s a n c wz.drew := (SghW.next (SghW.mk' h) ((Below.refl _ _).drew)).2
end
theorem shareW {p G : Prop} (h : G → p) (key : G) : p := h key
theorem build_hd0 (W : World) : (Instr.build 36 #[]).run Tryz.prog W = .ok (.agg zeroHd.toArray) W := run_build W _ _ _ (by kernel_rfl)
theorem zeroHd_lenR : zeroHd.length = 37 := by simp [zeroHd, headC, bv_length]
theorem zeroHd_one : ∀ u ∈ zeroHd, u.oneCell' = true := (HeadR.mk (st := 0) (fo := 0) (no := 0) (R := 0) (S := 0) (D := List.replicate 32 0) rfl (by simp)).one
set_option maxRecDepth 20000 in
set_option maxHeartbeats 2000000 in
theorem r30signE_any (a : Option Addr) (n c : Nat) (s : St) (f : Int) (_hf : I64 f) (KE : Nat → Prop) (ea : Option Addr) (en ec : Nat) (es : List Ent) (w : World) (H : SV (fun _ => True) w a n c s) (HE : ES KE w ea en ec es) (hen : en ≤ 65536) (hq0 : Sto.openE s f ≠ 0) :
 Calls Tryz.prog 40 #[.agg #[.int .i64 s.id, .int .i64 s.priv, .slice a n c], .int .i64 f, .slice ea en ec] w (SignHPost zeroHd (Sto.openE s f) w) := by
 have H' := Lib.hid H; have HE' := Lib.hid HE
 clear H HE
 obtain ⟨sb, hsb⟩ : ∃ sb, Hid (w.heap.size = sb) := ⟨_, rfl⟩
 have hlen := HE'.out.rs.len
 have e0 : (0 : Int) ≤ (en : Int) := by omega
 have e1 : (en : Int) ≤ 65536 := by omega
 obtain ⟨W1, hW1⟩ : ∃ W1, W1 = (w.alloc (.cells #[.int .i64 s.id, .int .i64 s.priv, .slice a n c] 24)).alloc (.cells zeroHd.toArray 36) := ⟨_, rfl⟩
 have hB1 : Hid (Blk W1 sb 24 (stC s a n c)) := by rw [hW1, ← hsb.out]; exact (Blk.new w _ (stC s a n c)).alloc _
 have hB2 : Hid (Blk W1 (sb + 1) 36 zeroHd) := by
  have h := Blk.new (w.alloc (.cells #[.int .i64 s.id, .int .i64 s.priv, .slice a n c] 24)) 36 zeroHd
  rw [show (w.alloc (.cells #[.int .i64 s.id, .int .i64 s.priv, .slice a n c] 24)).heap.size = sb + 1 by rw [← hsb.out]; simp] at h
  rw [hW1]; exact h
 have hb1 : Hid (Below w.heap.size w W1) := by rw [hW1]; exact ((Below.refl _ w).alloc (Nat.le_refl _) _).alloc (by simp) _
 have hop := Lib.hid (r30open_any (fun _ => True) a n c s f W1 (H'.out.below hb1.out))
 have b0 := hB1.out.at_ (i := 0) rfl
 have b1 := hB1.out.at_ (i := 1) rfl
 have b2 := hB1.out.at_ (i := 2) rfl
 obtain ⟨q, hq⟩ : ∃ q, Hid (Sto.openE s f = q) := ⟨_, rfl⟩
 rw [hq.out] at hop hq0 ⊢
 have q0 : (q != 0) = true := by simpa using hq0
 have hqi : (Tryz.prog.info? 36).map (·.size) = some zeroHd.length := by rw [zeroHd_lenR]; exact sizeH
 clear hq
 go_enter Tryz.func40, Tryz.ntmps40
 go_upto_region 1 with fail
 rw [hsb.out]
 generalize hg : World.alloc (World.alloc w _) _ = Wg
 obtain rfl : W1 = Wg := by rw [← hg, hW1]; rfl
 clear hg hW1
 go_wp2_with fail
 refine hop.out.mono ?_
 rintro e w2 ⟨rfl, hb2⟩
 have hH2 := Lib.hid (hB2.out.below hb2 hB2.out.lt)
 have hbw := Lib.hid (hb1.out.trans (hb2.mono hb1.out.size))
 clear hop b0 b1 b2 hB1 hB2 hb1 hb2
 obtain ⟨W12, hP12⟩ := put_row (ty := 36) hH2.out (x := zeroHd) rfl (by rw [zeroHd_lenR]; exact sizeH) zeroHd_one
 have hP13 := Lib.hid hP12
 have hend : Hid (SignHPost zeroHd q w (.returned (.tuple #[.agg zeroHd.toArray, .int .i64 q])) W12) := ⟨rfl, below_grown hbw.out hP12.grown hbw.out.size (by have := hsb.out; omega)⟩
 have hbd := build_hd0
 clear hP12 hbw hH2
 generalize zeroHd = Z at *
 go_wp2_with (first
  | (refine wpList_build_run (by rfl) 36 _ rfl #[] (by simp) (hbd _) ?_)
   | (refine wpList_store_mid (by rfl) 36 _ _ (by rfl) (sb + 1) 0 Z.toArray (by rfl) (by rfl) hP13.out.there hP13.out.info (by simpa using hP13.out.one) ?_
      generalize hWq : World.setCells _ _ _ _ = Wa
      obtain rfl : W12 = Wa := by rw [← hWq]; exact hP13.out.eq
      clear hWq))
 exact ret_cell_tmpV (p := 6) (u := 7) rfl hP13.out.blk Tryz.underlying36 rfl hqi rfl rfl rfl hend.out

set_option maxRecDepth 20000 in
set_option maxHeartbeats 4000000 in
theorem r30sign_any (hb4 : Grp.ok 4 = true) (a : Option Addr) (n c : Nat) (s : St) (f : Int) (hf : I64 f) (KE : Nat → Prop) (ea : Option Addr) (en ec : Nat) (es : List Ent) (_hok : ∀ e ∈ es, OkE e) (w : World) (H : SV (fun _ => True) w a n c s) (HE : ES KE w ea en ec es) (hen : en ≤ 65536) (hop0 : Sto.openE s f = 0) :
 Calls Tryz.prog 40 #[.agg #[.int .i64 s.id, .int .i64 s.priv, .slice a n c], .int .i64 f, .slice ea en ec] w (SignHPost (signHd s f en (es.map (·.dig))) 0 w) := by
 have hb4' := Lib.hid hb4
 clear hb4
 have H' := Lib.hid H; have HE' := Lib.hid HE
 clear H HE
 obtain ⟨sb, hsb⟩ : ∃ sb, Hid (w.heap.size = sb) := ⟨_, rfl⟩
 have hlen := HE'.out.rs.len
 have e0 : (0 : Int) ≤ (en : Int) := by omega
 have e1 : (en : Int) ≤ 65536 := by omega
 obtain ⟨W1, hW1⟩ : ∃ W1, W1 = (w.alloc (.cells #[.int .i64 s.id, .int .i64 s.priv, .slice a n c] 24)).alloc (.cells zeroHd.toArray 36) := ⟨_, rfl⟩
 have hB1 : Hid (Blk W1 sb 24 (stC s a n c)) := by rw [hW1, ← hsb.out]; exact (Blk.new w _ (stC s a n c)).alloc _
 have hB2 : Hid (Blk W1 (sb + 1) 36 zeroHd) := by
  have h := Blk.new (w.alloc (.cells #[.int .i64 s.id, .int .i64 s.priv, .slice a n c] 24)) 36 zeroHd
  rw [show (w.alloc (.cells #[.int .i64 s.id, .int .i64 s.priv, .slice a n c] 24)).heap.size = sb + 1 by rw [← hsb.out]; simp] at h
  rw [hW1]; exact h
 have hb1 : Hid (Below w.heap.size w W1) := by rw [hW1]; exact ((Below.refl _ w).alloc (Nat.le_refl _) _).alloc (by simp) _
 have hop := Lib.hid (r30open_any (fun _ => True) a n c s f W1 (H'.out.below hb1.out))
 rw [hop0] at hop
 have b0 := hB1.out.at_ (i := 0) rfl
 have b1 := hB1.out.at_ (i := 1) rfl
 have b2 := hB1.out.at_ (i := 2) rfl
 have hcl2 := chain_len f (es.map (·.dig))
 obtain ⟨D, hD⟩ : ∃ D, Hid (chainD f (es.map (·.dig)) = D) := ⟨_, rfl⟩
 have hchn := Lib.hid (fun da dc W hDS => r30chain_any f hf da en dc (es.map (·.dig)) W hDS)
 rw [hD.out] at hcl2 hchn
 have hcl := hcl2.1
 obtain ⟨M, hM⟩ : ∃ M, Hid (headD s.id f en D = M) := ⟨_, rfl⟩
 obtain ⟨SV, hSV⟩ : ∃ V, Hid (signK 4 s.priv M = V) := ⟨_, rfl⟩
 have hM32 : Hid (M.length = 32 ∧ ∀ u ∈ M, u < 256) := by rw [← hM.out]; exact ⟨Sha.tagged_length _ _, Sha.tagged_lt _ _⟩
 have hmsg := Lib.hid (fun W => r30msg_any s.id f en 0 0 D H'.out.id hf ⟨by omega, by omega⟩ hcl2 W)
 have hsgn := Lib.hid (fun W mb (hB : BS W (some ⟨mb, 0, none⟩) 32 32 M) => r5sign_b 4 hb4'.out r4base_any s.priv (some ⟨mb, 0, none⟩) 32 32 M W (bw_of hB) (by omega))
 rw [hM.out] at hmsg
 rw [hSV.out] at hsgn
 obtain ⟨SR, SS, SE⟩ := SV
 obtain ⟨q, hq⟩ : ∃ q, Hid (headC s.id f en D SR SS = q) := ⟨_, rfl⟩
 have hql : q.length = 37 := by rw [← hq.out]; simp [headC, bv_length, hcl]
 have hfin0 : signHd s f en (es.map (·.dig)) = q := by
  unfold signHd
  rw [hD.out, hM.out, hSV.out, hq.out]
 rw [hfin0]
 have hse : SE = 0 ∨ True := .inr trivial
 obtain ⟨X, hX⟩ : ∃ X, X = SignHPost q 0 w := ⟨_, rfl⟩
 have hfin : Hid (∀ W, Below w.heap.size w W → X (.returned (.tuple #[.agg q.toArray, .int .i64 0])) W) := fun W h => by rw [hX]; exact ⟨rfl, h⟩
 rw [← hX]
 clear hX hfin0 hse
 obtain ⟨r, hr⟩ : ∃ r, Hid (headC s.id f en D 0 0 = r) := ⟨_, rfl⟩
 have hrl : r.length = 37 := by rw [← hr.out]; simp [headC, bv_length, hcl]
 have hsig := Lib.hid (fun W g (h : Blk W g 36 (headC s.id f en D 0 0)) => put_sig hcl h SR SS)
 rw [hq.out, hr.out] at hsig
 rw [hr.out] at hmsg
 have hone7 : ∀ u ∈ r, u.oneCell' = true := (HeadR.mk hr.out hcl).one
 have hbd := Lib.hid (fun W => head_build hcl s.id f (en : Int) W)
 rw [hr.out] at hbd
 have hu := Tryz.underlying36
 have hri : (Tryz.prog.info? 36).map (·.size) = some r.length := by rw [hrl]; exact sizeH
 have hqi : (Tryz.prog.info? 36).map (·.size) = some q.length := by rw [hql]; exact sizeH
 have hsz : Hid ((Tryz.prog.info? 34).map (·.size) = some (#[Value.int .i64 SR, Value.int .i64 SS] : Array Value).size) := by show _ = some 2; kernel_rfl
 have hone9 : ∀ u ∈ q, u.oneCell' = true := (HeadR.mk hq.out hcl).one
 have hdg := Lib.hid (fun W h => r30digs_any KE ea en ec es W h)
 have hdl : Hid ((es.map (·.dig)).length = en) := by show _ = _; rw [List.length_map, hlen]
 generalize es.map (·.dig) = ds at *
 clear hM hSV hq hD hr hlen hb4'
 go_enter Tryz.func40, Tryz.ntmps40
 go_upto_region 1 with fail
 rw [hsb.out]
 generalize hg : World.alloc (World.alloc w _) _ = Wg
 obtain rfl : W1 = Wg := by rw [← hg, hW1]; rfl
 clear hg hW1
 go_wp2_with fail
 refine hop.out.mono ?_
 rintro e w2 ⟨rfl, hb2⟩
 have hS2 : SghW w sb s a n c w2 := ⟨hB1.out.below hb2 hB1.out.lt, ⟨zeroHd, hB2.out.below hb2 hB2.out.lt, zeroHd_lenR⟩, hb1.out.trans (hb2.mono hb1.out.size)⟩
 have hS2' := Lib.hid hS2
 clear hop b0 b1 b2 hB1 hB2 hb1 hb2 hS2
 go_upto_region 6 with fail
 refine shareW (G := ∀ (da : Option Addr) (dc hb : Nat) (WZ : World), (WZ.cell? ⟨sb, 0, none⟩ = some (.int .i64 s.id) ∧ SghW w sb s a n c WZ) → Blk WZ hb 36 zeroHd → sb + 1 < hb → (?S3 : Option Addr → Nat → Nat → World → Prop) da dc hb WZ) ?h3 ?k3
 case' h3 => intro K3
 case h3 =>
  refine wp_region_held_drew (S := fun wz => wz.cell? ⟨sb, 0, none⟩ = some (.int .i64 s.id) ∧ SghW w sb s a n c wz) (by kernel_rfl) (SghW.mk' hS2'.out.drew) (fun hHeld => ?_)
  generalize w2.drew = W at *
  refine tQ 0 rfl hHeld ?_
  refine tQ 1 rfl hHeld ?_
  refine tQ 2 rfl hHeld ?_
  refine tQ 3 rfl hHeld ?_
  refine tQ 4 rfl hHeld ?_
  refine tQ 5 rfl hHeld ?_
  refine tQ 6 rfl hHeld ?_
  refine rd (rs := [7, 10]) ?_
  refine tR rfl (fun K hK => ?_) (tR rfl (fun K hK => ?_) rn)
  case refine_1 =>
   go_simp
   go_at_call 64
   refine (hdg.out _ (HE'.out.below hHeld.2.bel)).mono ?_
   rintro e W5 ⟨da, dc, rfl, hD5, hb5⟩
   rw [hdl.out] at hD5 ⊢
   refine hK.out _ _ (SghW.next hHeld hb5) (fun hHeld2 => ?_)
   clear hK K
   try simp only [Act.put, sA, s0, s1]
   clear hHeld
   have hHeld := hHeld2
   clear hHeld2

   refine rd (rs := [8, 10]) ?_
   refine tR rfl (fun K hK => ?_) (tR rfl (fun K hK => ?_) rn)
   case refine_1 =>
    go_simp
    go_at_call 88
    refine (hchn.out da dc W5 hD5).mono ?_
    rintro e W6 ⟨rfl, hb6⟩
    refine hK.out _ _ (SghW.next hHeld hb6) (fun hHeld2 => ?_)
    clear hK K
    try simp only [Act.put, sA, s0, s1]
    clear hHeld
    have hHeld := hHeld2
    clear hHeld2

    refine tU 9 rfl #[(0, .int .i64 s.id), (1, .int .i64 f), (2, .int .i64 (en : Int)), (3, .agg (bv D).toArray)] hbd.out hHeld ?_
    refine tO 10 rfl (fun K hK => ?_)
    go_simp
    obtain ⟨hb, hhb⟩ : ∃ hb, W6.heap.size = hb := ⟨_, rfl⟩
    have hbl : Blk (W6.alloc (.cells zeroHd.toArray 36)) hb 36 zeroHd := by rw [← hhb]; exact Blk.new W6 36 zeroHd
    have hsl : sb + 1 < hb := by obtain ⟨r0, hr0, _⟩ := hHeld.2.hd; rw [← hhb]; exact hr0.lt
    obtain ⟨V6, hV⟩ : ∃ V, W6.alloc (.cells zeroHd.toArray 36) = V := ⟨_, rfl⟩
    have hsv : W6.heap.size ≤ V6.heap.size := by rw [← hV]; simp
    have hHeld3 := SghW.alloc hHeld (.cells zeroHd.toArray 36)
    have hbv := (Below.refl W6.heap.size W6).alloc (Nat.le_refl _) (.cells zeroHd.toArray 36)
    rw [hV] at hbl hHeld3 hbv
    generalize hWq : World.alloc W6 _ = Wq
    obtain rfl : V6 = Wq := by rw [← hWq, ← hV]; rfl
    rw [hhb]
    refine hK.out _ _ hHeld3 (fun hHeld2 => ?_)
    clear hWq hV hhb hHeld3 hK K
    try simp only [Act.put, sA, s0, s1]
    clear hHeld
    have hHeld := hHeld2
    clear hHeld2

    have hbl2 := hbl
    exact K3 da dc hb V6 hHeld hbl2 hsl
   case refine_2 =>
    go_simp
    obtain ⟨hb, hhb⟩ : ∃ hb, W5.heap.size = hb := ⟨_, rfl⟩
    have hbl : Blk (W5.alloc (.cells zeroHd.toArray 36)) hb 36 zeroHd := by rw [← hhb]; exact Blk.new W5 36 zeroHd
    have hsl : sb + 1 < hb := by obtain ⟨r0, hr0, _⟩ := hHeld.2.hd; rw [← hhb]; exact hr0.lt
    obtain ⟨V5, hV⟩ : ∃ V, W5.alloc (.cells zeroHd.toArray 36) = V := ⟨_, rfl⟩
    have hsv : W5.heap.size ≤ V5.heap.size := by rw [← hV]; simp
    have hHeld3 := SghW.alloc hHeld (.cells zeroHd.toArray 36)
    have hbv := (Below.refl W5.heap.size W5).alloc (Nat.le_refl _) (.cells zeroHd.toArray 36)
    rw [hV] at hbl hHeld3 hbv
    generalize hWq : World.alloc W5 _ = Wq
    obtain rfl : V5 = Wq := by rw [← hWq, ← hV]; rfl
    rw [hhb]
    refine hK.out _ _ hHeld3 (fun hHeld2 => ?_)
    clear hWq hV hhb hHeld3 hK K
    try simp only [Act.put, sA, s0, s1]
    clear hHeld
    have hHeld := hHeld2
    clear hHeld2

    refine tO 8 rfl (fun K hK => ?_)
    go_simp
    go_at_call 88
    refine (hchn.out da dc V5 (hD5.below hbv)).mono ?_
    rintro e W6 ⟨rfl, hb6⟩
    refine hK.out _ _ (SghW.next hHeld hb6) (fun hHeld2 => ?_)
    clear hK K
    try simp only [Act.put, sA, s0, s1]
    clear hHeld
    have hHeld := hHeld2
    clear hHeld2

    refine tU 9 rfl #[(0, .int .i64 s.id), (1, .int .i64 f), (2, .int .i64 (en : Int)), (3, .agg (bv D).toArray)] hbd.out hHeld ?_
    have hbl2 := hbl.below hb6 hbl.lt
    exact K3 da dc hb W6 hHeld hbl2 hsl
  case refine_2 =>
   go_simp
   obtain ⟨hb, hhb⟩ : ∃ hb, W.heap.size = hb := ⟨_, rfl⟩
   have hbl : Blk (W.alloc (.cells zeroHd.toArray 36)) hb 36 zeroHd := by rw [← hhb]; exact Blk.new W 36 zeroHd
   have hsl : sb + 1 < hb := by obtain ⟨r0, hr0, _⟩ := hHeld.2.hd; rw [← hhb]; exact hr0.lt
   obtain ⟨V, hV⟩ : ∃ V, W.alloc (.cells zeroHd.toArray 36) = V := ⟨_, rfl⟩
   have hsv : W.heap.size ≤ V.heap.size := by rw [← hV]; simp
   have hHeld3 := SghW.alloc hHeld (.cells zeroHd.toArray 36)
   have hbv := (Below.refl W.heap.size W).alloc (Nat.le_refl _) (.cells zeroHd.toArray 36)
   rw [hV] at hbl hHeld3 hbv
   generalize hWq : World.alloc W _ = Wq
   obtain rfl : V = Wq := by rw [← hWq, ← hV]; rfl
   rw [hhb]
   refine hK.out _ _ hHeld3 (fun hHeld2 => ?_)
   clear hWq hV hhb hHeld3 hK K
   try simp only [Act.put, sA, s0, s1]
   clear hHeld
   have hHeld := hHeld2
   clear hHeld2

   refine tO 7 rfl (fun K hK => ?_)
   go_simp
   go_at_call 64
   refine (hdg.out _ (HE'.out.below hHeld.2.bel)).mono ?_
   rintro e W5 ⟨da, dc, rfl, hD5, hb5⟩
   rw [hdl.out] at hD5 ⊢
   refine hK.out _ _ (SghW.next hHeld hb5) (fun hHeld2 => ?_)
   clear hK K
   try simp only [Act.put, sA, s0, s1]
   clear hHeld
   have hHeld := hHeld2
   clear hHeld2

   refine tO 8 rfl (fun K hK => ?_)
   go_simp
   go_at_call 88
   refine (hchn.out da dc W5 hD5).mono ?_
   rintro e W6 ⟨rfl, hb6⟩
   refine hK.out _ _ (SghW.next hHeld hb6) (fun hHeld2 => ?_)
   clear hK K
   try simp only [Act.put, sA, s0, s1]
   clear hHeld
   have hHeld := hHeld2
   clear hHeld2

   refine tU 9 rfl #[(0, .int .i64 s.id), (1, .int .i64 f), (2, .int .i64 (en : Int)), (3, .agg (bv D).toArray)] hbd.out hHeld ?_
   have hbl2 := (hbl.below hb5 hbl.lt).below hb6 (hbl.below hb5 hbl.lt).lt
   exact K3 da dc hb W6 hHeld hbl2 hsl
 case k3 =>
  intro da dc hb WZ hHeld hbl hsl
  obtain ⟨W7, hP⟩ := put_row (ty := 36) hbl (x := r) (by rw [hrl, zeroHd_lenR]) (by rw [hrl]; exact sizeH) hone7
  have hS7 := hHeld.2.grow hP.grown (by have := hsb.out; omega) hsl
  refine tO 11 rfl (fun K hK => ?_)
  refine wp_store_mid 36 _ _ rfl hb 0 r.toArray (by rfl) (by rfl) hP.there hP.info (by simpa using hP.one) ?_
  generalize hWq : World.setCells _ _ _ _ = Wa
  obtain rfl : W7 = Wa := by rw [← hWq]; exact hP.eq
  clear hWq
  refine hK.out _ _ (SghW.mk' hS7) (fun hHeld2 => ?_)
  clear hK K
  try simp only [Act.put]
  refine wpAnyH_done (by kernel_rfl) ?_ _
  have hBr7 := Lib.hid hP.blk
  have hS7' := Lib.hid hS7
  have hsl' := Lib.hid hsl
  clear hHeld hHeld2 hP hS7 hbl hsl
  go_upto_region 7 with fail
  refine wp_region_held_drew (S := fun wz => wz.cell? ⟨sb, 1, none⟩ = some (.int .i64 s.priv) ∧ SghW w sb s a n c wz) (by kernel_rfl) (SghW.mk1 hS7'.out.drew) (fun hHeld => ?_)
  have hBr8 : Hid (Blk W7.drew hb 36 r) := hBr7.out.below ((Below.refl _ _).drew) hBr7.out.lt
  generalize W7.drew = W8 at *
  clear hBr7 hS7'
  refine tQ 0 rfl hHeld ?_
  refine tQ 1 rfl hHeld ?_
  refine tO 2 rfl (fun K hK => ?_)
  refine wp_load_mid 36 _ rfl hb 0 rfl r _ hBr8.out.range hu rfl hri ?_
  refine hK.out _ _ hHeld (fun hHeld => ?_)
  clear hK K
  try simp only [Act.put, sA, s0, s1]
  refine tO 3 rfl (fun K hK => ?_)
  go_simp
  go_at_call 90
  refine (hmsg.out _).mono ?_
  rintro e w8 ⟨mb, rfl, hm8, hb8⟩
  have hBr9 := hBr8.out.below hb8 hBr8.out.lt
  refine hK.out _ _ (SghW.next1 hHeld hb8) (fun hHeld => ?_)
  clear hK K
  try simp only [Act.put, sA, s0, s1]
  refine tO 4 rfl (fun K hK => ?_)
  go_simp
  go_at_call 89
  refine (hsgn.out _ mb (dig_bs hM32.out hm8)).mono ?_
  rintro e w9 ⟨rfl, hb9⟩
  have hBr10 := hBr9.below hb9 hBr9.lt
  refine hK.out _ _ (SghW.next1 hHeld hb9) (fun hHeld => ?_)
  clear hK K
  refine tQ 5 rfl hHeld ?_
  refine tQ 6 rfl hHeld ?_
  refine tQ 7 rfl hHeld ?_
  refine tQ 8 rfl hHeld ?_
  obtain ⟨W10, hP10⟩ := hsig.out _ hb hBr10
  have hP11 := Lib.hid hP10
  have hS10 := hHeld.2.grow hP11.out.grown (by have := hsb.out; have := hsl'.out; omega) hsl'.out
  refine tO 9 rfl (fun K hK => ?_)
  refine wp_store_mid 34 _ _ rfl hb 35 #[.int .i64 SR, .int .i64 SS] (by rfl) (by rfl) hP11.out.there hsz.out (by rw [List.all_toArray]; rfl) ?_
  generalize hWq : World.setCells _ _ _ _ = Wa
  obtain rfl : W10 = Wa := by rw [← hWq]; exact hP11.out.eq
  clear hWq
  refine hK.out _ _ (SghW.mk1 hS10) (fun hHeld2 => ?_)
  clear hK K
  try simp only [Act.put]
  refine wpAnyH_done (by kernel_rfl) ?_ _
  have hBq := Lib.hid hP11.out.blk
  obtain ⟨r0, hr0, hl0⟩ := hS10.hd
  obtain ⟨W12, hP12⟩ := put_row (ty := 36) hr0 (x := q) (by rw [hql, hl0]) (by rw [hql]; exact sizeH) hone9
  have hP13 := Lib.hid hP12
  have hbq12 := Lib.hid (below_grown hS10.bel hP13.out.grown hS10.bel.size (by have := hsb.out; omega))
  have hrq := hBq.out.range
  have hend := Lib.hid (hfin.out _ hbq12.out)
  clear hHeld hHeld2 hP10 hP11 hS10 hr0 hl0 hP12 hbq12 hBr10 hBr9 hBr8
  go_wp2_with (first
   | (refine wpList_load_mid (by rfl) 36 _ (by rfl) hb 0 (by rfl) q _ hrq hu (by rfl) hqi ?_)
    | (refine wpList_store_mid (by rfl) 36 _ _ (by rfl) (sb + 1) 0 q.toArray (by rfl) (by rfl) hP13.out.there hP13.out.info (by simpa using hP13.out.one) ?_
       generalize hWq : World.setCells _ _ _ _ = Wa
       obtain rfl : W12 = Wa := by rw [← hWq]; exact hP13.out.eq
       clear hWq))
  exact ret_cell_tmpV (p := 6) (u := 7) rfl hP13.out.blk Tryz.underlying36 rfl hqi rfl rfl rfl hend.out
end Go.Proofs.YtnonfdcbnkdmcaaGreatDoor

