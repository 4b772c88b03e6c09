/- the reference 36: Proper, Contradicts -/
import Derived.Test.YtlpgjdlkjahdgaaGreatDoorAl
import Derived.Test.YtlpgjdlkjahdgaaGreatDoorFb
import Derived.Test.YtlpgjdlkjahdgaaGreatDoorGa
namespace Go.Proofs.YtlpgjdlkjahdgaaGreatDoor
open Go.RowKit Go.Mem
open Go.Dr (Lst Rt Dir Wt)

set_option maxRecDepth 20000 in
set_option maxHeartbeats 2000000 in
theorem r36proper_any (x : Rt) (hx : OkQ x) (pub : Int) (w : World) :
 Calls Tryz.prog 86 #[.int .i64 pub, .agg (rC x).toArray] w (RetBo (Go.Dr.properB 4 pub x) w) := by
 have hx' := Lib.hid hx
 clear hx
 obtain ⟨V, hV⟩ : ∃ V, Hid (Go.Dr.properB 4 pub x = V) := ⟨_, rfl⟩
 obtain ⟨S, hS⟩ : ∃ S, Hid (Go.Dr.signedB 4 pub x = S) := ⟨_, rfl⟩
 have hVS : Hid (V = (S && (decide (1 < x.no) || decide (x.prev = Go.Dr.zd)))) := by rw [← hV.out, ← hS.out]; rfl
 have hno : Hid (S = true → 1 ≤ x.no) := fun h => by
  have h' := hS.out
  rw [h] at h'
  unfold Go.Dr.signedB at h'
  rw [Bool.and_eq_true, decide_eq_true_iff] at h'
  exact h'.1.1
 rw [hV.out]
 have hsg := Lib.hid (fun W => r35signed_any pub x hx'.out W)
 rw [hS.out] at hsg
 clear hV hS
 obtain ⟨tb, htb⟩ : ∃ tb, Hid (w.heap.size = tb) := ⟨_, rfl⟩
 have z0 : Hid ((Tryz.prog.info? 62).map (·.size) = some (rC x).length) := by show _ = _; rw [rC_length hx'.out]; exact sizeR
 have z1 : Hid ((Tryz.prog.info? 43).map (·.size) = some (bv x.prev).length) := by show _ = _; rw [bv_length, hx'.out.prev]; exact size35
 obtain ⟨W0, hW0⟩ : ∃ W, Hid (w.alloc (.cells (rC x).toArray 62) = W) := ⟨_, rfl⟩
 have hB : Hid (Blk W0 tb 62 (rC x)) := by rw [← hW0.out, ← htb.out]; exact Blk.new w _ (rC x)
 have hb : Hid (Below w.heap.size w W0) := by rw [← hW0.out]; exact (Below.refl _ w).alloc (Nat.le_refl _) _
 have hrg := Lib.hid hB.out.range
 obtain ⟨rr, hre⟩ : ∃ rr, Hid (rC x = rr) := ⟨_, rfl⟩
 rw [hre.out] at hrg z0 hW0 hsg ⊢
 have hq0 : Hid (∀ W, Below W0.heap.size W0 W → W.cell? ⟨tb, 0, none⟩ = some (.int .i64 x.no)) := fun W h => (hB.out.below h hB.out.lt).at_ (i := 0) rfl
 have hq1 : Hid (∀ W, Below W0.heap.size W0 W → W.rangeAt tb 33 (bv x.prev)) := fun W h j u hj => (hB.out.below h hB.out.lt).at_ (rC_prev hx'.out.dig hj)
 have hfin : Hid (∀ W, Below W0.heap.size W0 W → Below w.heap.size w W) := fun W h => hb.out.trans (h.mono hb.out.size)
 have heq := fun W => eq_zd ⟨hx'.out.prev, hx'.out.prevl⟩ W
 obtain ⟨P, hP⟩ : ∃ P, decide (x.prev = Go.Dr.zd) = P := ⟨_, rfl⟩
 rw [hP] at heq hVS
 obtain ⟨pv, hpv⟩ : ∃ pv, Hid (bv x.prev = pv) := ⟨_, rfl⟩
 rw [hpv.out] at heq z1 hq1
 clear hP hpv hre hB hb hx'
 go_enter Tryz.func86, Tryz.ntmps86
 go_wp2_with (first
  | (rw [hW0.out, htb.out])
   | (refine wpList_load_mid (by rfl) 62 (.tmp 3) (by rfl) tb 0 (by rfl) rr _ hrg.out Tryz.underlying62 (by rfl) z0.out ?_))
 refine (hsg.out _).mono ?_
 rintro e w1 ⟨rfl, hb1⟩
 have hend := Lib.hid (hfin.out _ hb1)
 have y0 := hq0.out _ hb1
 have y1 := Lib.hid (hq1.out _ hb1)
 clear hb1 hfin hq0 hq1 hsg hrg
 cases S with
 | false =>
  have hv := hVS.out
  rw [Bool.false_and] at hv
  clear hVS heq
  subst hv
  go_wp2_with fail
  go_ret
  exact ⟨rfl, hend.out⟩
 | true =>
  have hn1 := hno.out rfl
  by_cases h1 : 1 < x.no
  · have h1' : decide (1 < x.no) = true := by simpa using h1
    have hne : (x.no != 1) = true := by simp; omega
    have hv := hVS.out
    rw [h1', Bool.true_or, Bool.and_true] at hv
    clear hVS heq h1 h1' hn1
    subst hv
    go_wp2_with fail
    go_ret
    exact ⟨rfl, hend.out⟩
  · have h1' : decide (1 < x.no) = false := by simpa using h1
    have hne : (x.no != 1) = false := by simp; omega
    have hv := hVS.out
    rw [h1', Bool.false_or, Bool.true_and] at hv
    clear hVS h1 h1' hn1
    subst hv
    go_wp2_with (first
     | (refine wpList_load_gd (by rfl) 43 (.tmp 13) (by rfl) tb 33 (by rfl) pv _ y1.out Tryz.underlying43 (by rfl) z1.out ?_))
    go_ret
    exact ⟨rfl, hend.out⟩

set_option maxRecDepth 20000 in
set_option maxHeartbeats 4000000 in
theorem r36contra_any (a c : Rt) (ha : OkQ a) (hc : OkQ c) (h1 : 1 ≤ c.no) (w : World) :
 Calls Tryz.prog 87 #[.agg (rC a).toArray, .agg (rC c).toArray] w (RetBo (Go.Dr.contraB a c) w) := by
 have ha' := Lib.hid ha; have hc' := Lib.hid hc
 clear ha hc
 obtain ⟨tb, htb⟩ : ∃ tb, Hid (w.heap.size = tb) := ⟨_, rfl⟩
 obtain ⟨tc, htc⟩ : ∃ tc, Hid (tb + 1 = tc) := ⟨_, rfl⟩
 have z2 : Hid ((Tryz.prog.info? 62).map (·.size) = some (rC a).length) := by show _ = _; rw [rC_length ha'.out]; exact sizeR
 have z1 : Hid ((Tryz.prog.info? 62).map (·.size) = some (rC c).length) := by show _ = _; rw [rC_length hc'.out]; exact sizeR
 have z3 : Hid ((Tryz.prog.info? 43).map (·.size) = some (bv c.prev).length) := by show _ = _; rw [bv_length, hc'.out.prev]; exact size35
 have hdd : Dig c.prev := ⟨hc'.out.prev, hc'.out.prevl⟩
 have hDi : Dig (Go.Dr.idR a) := ⟨Sha.tagged_length _ _, Sha.tagged_lt _ _⟩
 obtain ⟨W0, hW0⟩ : ∃ W, Hid ((w.alloc (.cells (rC a).toArray 62)).alloc (.cells (rC c).toArray 62) = W) := ⟨_, rfl⟩
 have hB : Hid (Blk W0 tb 62 (rC a)) := by rw [← hW0.out, ← htb.out]; exact (Blk.new w _ (rC a)).alloc _
 have hC : Hid (Blk W0 tc 62 (rC c)) := by
  rw [← hW0.out, ← htc.out, ← htb.out]
  have := Blk.new (w.alloc (.cells (rC a).toArray 62)) 62 (rC c)
  rwa [World.size_alloc] at this
 have hb : Hid (Below w.heap.size w W0) := by rw [← hW0.out]; exact ((Below.refl _ w).alloc (Nat.le_refl _) _).alloc (by simp) _
 have hid := Lib.hid (fun W => r35id_any a ha'.out W)
 have heq := fun W => eq_root ha'.out hc'.out W
 have hdq := fun W => eq_dig hdd hDi W
 obtain ⟨V, hV⟩ : ∃ V, Hid (Go.Dr.contraB a c = V) := ⟨_, rfl⟩
 have hVe := hV.out
 unfold Go.Dr.contraB at hVe
 rw [hV.out]
 obtain ⟨E, hE⟩ : ∃ E, Go.Dr.eqR a c = E := ⟨_, rfl⟩
 obtain ⟨D, hD⟩ : ∃ D, Hid (Go.Dr.idR a = D) := ⟨_, rfl⟩
 rw [hE] at heq hVe
 rw [hD.out] at hVe hdq hid
 obtain ⟨G, hG⟩ : ∃ G, decide (c.prev = D) = G := ⟨_, rfl⟩
 rw [hG] at hVe hdq
 have hVe' := Lib.hid hVe
 have y0 := hB.out.at_ (i := 0) (x := .int .i64 a.no) rfl
 have y1 := hC.out.at_ (i := 0) (x := .int .i64 c.no) rfl
 have hya : Hid (∀ W, Below W0.heap.size W0 W → W.cell? ⟨tb, 0, none⟩ = some (.int .i64 a.no)) := fun W h => (hB.out.below h hB.out.lt).at_ (i := 0) rfl
 have hyc : Hid (∀ W, Below W0.heap.size W0 W → W.cell? ⟨tc, 0, none⟩ = some (.int .i64 c.no)) := fun W h => (hC.out.below h hC.out.lt).at_ (i := 0) rfl
 have hrd : Hid (∀ W, Below W0.heap.size W0 W → W.rangeAt tc 33 (bv c.prev)) := fun W h j u hj => (hC.out.below h hC.out.lt).at_ (rC_prev hc'.out.dig hj)
 obtain ⟨ra, hra⟩ : ∃ ra, Hid (rC a = ra) := ⟨_, rfl⟩
 obtain ⟨rc, hrc⟩ : ∃ rc, Hid (rC c = rc) := ⟨_, rfl⟩
 obtain ⟨pv, hpv⟩ : ∃ pv, Hid (bv c.prev = pv) := ⟨_, rfl⟩
 have hno := hc'.out.no
 rw [hra.out] at z2 hW0 hB heq hid ⊢
 rw [hrc.out] at z1 hW0 hC heq ⊢
 rw [hpv.out] at z3 hdq hrd
 unfold DigPost at hid
 clear hVe hE hG hD hV hra hrc hpv hDi hdd
 go_enter Tryz.func87, Tryz.ntmps87
 by_cases hn : a.no = c.no
 · have hn' : (a.no == c.no) = true := by simpa using hn
   have hrg0 := Lib.hid hB.out.range
   have hrg1 := Lib.hid hC.out.range
   have hend := Lib.hid hb.out
   have hv := hVe'.out
   rw [if_pos hn] at hv
   clear hVe' hB hC hdq hid hn hno
   subst hv
   go_wp2_with (first
    | (rw [hW0.out, htb.out, htc.out])
     | (rw [hW0.out, htb.out])
     | (refine wpList_load_mid (by rfl) 62 (.tmp 2) (by rfl) tb 0 (by rfl) ra _ hrg0.out Tryz.underlying62 (by rfl) z2.out ?_)
     | (refine wpList_load_mid (by rfl) 62 (.tmp 3) (by rfl) tc 0 (by rfl) rc _ hrg1.out Tryz.underlying62 (by rfl) z1.out ?_))
   go_ret
   exact ⟨rfl, hend.out⟩
 · have hn' : (a.no == c.no) = false := by simpa using hn
   obtain ⟨m, hm⟩ : ∃ m, c.no - 1 = m := ⟨_, rfl⟩
   have hw : Hid (IntKind.i64.wrap m = m) := by show _ = _; unfold I64 at hno; rw [IntKind.wrap_i64]; omega
   have hv := hVe'.out
   rw [if_neg hn, hm] at hv
   clear hVe' heq z1
   go_upto_region 3 with (first
    | (rw [hW0.out, htb.out, htc.out])
     | (rw [hW0.out, htb.out]))
   by_cases hs : a.no = m
   · have he : (m == a.no) = true := by simpa using hs.symm
     rw [decide_eq_true hs, Bool.true_and] at hv
     refine wp_region_held_drew (S := fun wz => Below W0.heap.size W0 wz) (by kernel_rfl) ((Below.refl _ W0).drew) (fun hHeld => ?_)
     generalize hW1 : W0.drew = W1 at *
     clear hW1
     refine tQ 0 rfl hHeld ?_
     refine tG 1 (v := ?_) rfl (Or.inl ⟨by rfl, ?_⟩) hHeld ?_
     rotate_left
     · intro wz hSw
       have q0 : wz.cell? ⟨tc, 0, none⟩ = some (.int .i64 c.no) := hyc.out wz hSw
       go_simp
       all_goals (with_reducible rfl)
     try simp only [Act.put, sA, s0, s1]
     refine tX 2 rfl (fun wz hSw => And.intro (hm) (hw.out)) hHeld ?_
     refine tQ 3 rfl hHeld ?_
     refine tG 4 (v := ?_) rfl (Or.inl ⟨by rfl, ?_⟩) hHeld ?_
     rotate_left
     · intro wz hSw
       have q0 : wz.cell? ⟨tb, 0, none⟩ = some (.int .i64 a.no) := hya.out wz hSw
       go_simp
       all_goals (with_reducible rfl)
     try simp only [Act.put, sA, s0, s1]
     refine tX 5 rfl (fun wz hSw => he) hHeld ?_
     refine tQ 6 rfl hHeld ?_
     refine tQ 7 rfl hHeld ?_
     refine tY 8 rfl tc 33 (pv) (fun wz h => hrd.out wz h) Tryz.underlying43 z3.out hHeld ?_
     refine tY 9 rfl tb 0 (ra) (fun wz h => (hB.out.below h hB.out.lt).range) Tryz.underlying62 z2.out hHeld ?_
     refine tO 10 rfl (fun K hK => ?_)
     go_simp
     go_at_call 133
     refine (hid.out _).mono ?_
     rintro e W2 ⟨rfl, hst⟩
     refine hK.out _ _ (hHeld.trans (hst.mono hHeld.size)) (fun hHeld2 => ?_)
     clear hHeld hst
     have hHeld := hHeld2
     clear hHeld2
     clear hK K
     try simp only [Act.put, sA, s0, s1]
     refine tX 11 rfl (fun wz hSw => hdq) hHeld ?_
     refine tQ 12 rfl hHeld ?_
     refine tQ 13 rfl hHeld ?_
     refine wpAnyH_done (by kernel_rfl) ?_ _
     have hend := Lib.hid (hb.out.trans (hHeld.mono hb.out.size))
     clear hHeld hB hC
     subst hv
     go_wp2_with fail
     go_ret
     exact ⟨rfl, hend.out⟩
   · have he : (m == a.no) = false := by simp; exact fun h => hs h.symm
     rw [decide_eq_false hs, Bool.false_and] at hv
     subst hv
     refine wp_region_held_drew (S := fun wz => Below W0.heap.size W0 wz) (by kernel_rfl) ((Below.refl _ W0).drew) (fun hHeld => ?_)
     generalize hW1 : W0.drew = W1 at *
     clear hW1
     refine tQ 0 rfl hHeld ?_
     refine tG 1 (v := ?_) rfl (Or.inl ⟨by rfl, ?_⟩) hHeld ?_
     rotate_left
     · intro wz hSw
       have q0 : wz.cell? ⟨tc, 0, none⟩ = some (.int .i64 c.no) := hyc.out wz hSw
       go_simp
       all_goals (with_reducible rfl)
     try simp only [Act.put, sA, s0, s1]
     refine tX 2 rfl (fun wz hSw => And.intro (hm) (hw.out)) hHeld ?_
     refine tQ 3 rfl hHeld ?_
     refine tG 4 (v := ?_) rfl (Or.inl ⟨by rfl, ?_⟩) hHeld ?_
     rotate_left
     · intro wz hSw
       have q0 : wz.cell? ⟨tb, 0, none⟩ = some (.int .i64 a.no) := hya.out wz hSw
       go_simp
       all_goals (with_reducible rfl)
     try simp only [Act.put, sA, s0, s1]
     refine tX 5 rfl (fun wz hSw => he) hHeld ?_
     refine tQ 6 rfl hHeld ?_
     refine tS 7 rfl hHeld ?_
     refine tS 8 rfl hHeld ?_
     refine tS 9 rfl hHeld ?_
     refine Go.rd (rs := [10]) ?_
     refine AllReadyH.cons (o := ⟨some 23, .call { callee := .value (.func 133), args := #[.tmp 22], argTypes := #[62] }, 43, "ref.go:19", #[⟨9, .data⟩, ⟨6, .chain⟩, ⟨6, .guard⟩], some (6, true)⟩) rfl (fun K hK => ?_) AllReadyH.nil
     rw [if_neg (Bool.eq_false_iff.1 (by rfl))]
     refine hK.out _ _ hHeld (fun hHeld => ?_)
     clear hK K
     try simp only [Act.put, sA, s0, s1]
     refine tS 11 rfl hHeld ?_
     refine tQ 12 rfl hHeld ?_
     refine tQ 13 rfl hHeld ?_
     refine wpAnyH_done (by kernel_rfl) ?_ _
     have hend := Lib.hid (hb.out.trans (hHeld.mono hb.out.size))
     clear hHeld hB hC
     go_wp2_with fail
     go_ret
     exact ⟨rfl, hend.out⟩
end Go.Proofs.YtlpgjdlkjahdgaaGreatDoor
