/- gossip: proper, contradicts gossip: contradicts gossip: find, at roots ordered by their numbers watches in memory; gossip.Check -/
import Derived.Test.YtlpgjdlkjahdgaaGreatDoorAl
import Derived.Test.YtlpgjdlkjahdgaaGreatDoorRd
import Derived.Test.YtlpgjdlkjahdgaaGreatDoorGp
import Derived.Laws.EntriesVeiled
namespace Go.Proofs.YtlpgjdlkjahdgaaGreatDoor
open Go.RowKit Go.Mem
open Go.Dr (Lst Rt Dir Wt)

theorem dig_zd : Dig Go.Dr.zd := ⟨by simp [Go.Dr.zd], by simp [Go.Dr.zd]⟩
theorem eq_zd {x : List Nat} (hx : Dig x) (W : World) : (Op.equalIn 10000 43 (.agg (bv x).toArray) (.agg #[.int .u8 0, .int .u8 0, .int .u8 0, .int .u8 0, .int .u8 0, .int .u8 0, .int .u8 0, .int .u8 0, .int .u8 0, .int .u8 0, .int .u8 0, .int .u8 0, .int .u8 0, .int .u8 0, .int .u8 0, .int .u8 0, .int .u8 0, .int .u8 0, .int .u8 0, .int .u8 0, .int .u8 0, .int .u8 0, .int .u8 0, .int .u8 0, .int .u8 0, .int .u8 0, .int .u8 0, .int .u8 0, .int .u8 0, .int .u8 0, .int .u8 0, .int .u8 0])).run Tryz.prog W = .ok (decide (x = Go.Dr.zd)) W := eq_dig hx dig_zd W

set_option maxRecDepth 20000 in
set_option maxHeartbeats 2000000 in
theorem proper_any (x : Rt) (hx : OkQ x) (pub : Int) (hp : I64 pub) (w : World) (HT : Tabs w) :
 Calls Tryz.prog 84 #[.agg (rC x).toArray, .int .i64 pub] w (RetBo (Go.Dr.properB 4 pub x) w) := by
 have HT' := Lib.hid HT; have hx' := Lib.hid hx; have hp' := Lib.hid hp
 clear HT hx hp
 obtain ⟨V, hV⟩ : ∃ V, Hid (Go.Dr.properB 4 pub x = V) := ⟨_, rfl⟩
 obtain ⟨S, hS⟩ : ∃ S, Hid (Go.Dr.signedB 4 pub x = S) := ⟨_, rfl⟩
 have hVS : Hid (V = (S && (decide (1 < x.no) || decide (x.prev = Go.Dr.zd)))) := by rw [← hV.out, ← hS.out]; rfl
 rw [hV.out]
 have hsg := Lib.hid (fun W hT => signed_any pub hp'.out x hx'.out W hT)
 rw [hS.out] at hsg
 clear hV hS
 obtain ⟨tb, htb⟩ : ∃ tb, Hid (w.heap.size = tb) := ⟨_, rfl⟩
 have z0 : Hid ((Tryz.prog.info? 62).map (·.size) = some (rC x).length) := by show _ = _; rw [rC_length hx'.out]; exact sizeR
 have z1 : Hid ((Tryz.prog.info? 43).map (·.size) = some (bv x.prev).length) := by show _ = _; rw [bv_length, hx'.out.prev]; exact size35
 obtain ⟨W0, hW0⟩ : ∃ W, Hid (w.alloc (.cells (rC x).toArray 121) = W) := ⟨_, rfl⟩
 have hB : Hid (Blk W0 tb 121 (rC x)) := by rw [← hW0.out, ← htb.out]; exact Blk.new w _ (rC x)
 have hb : Hid (Below w.heap.size w W0) := by rw [← hW0.out]; exact (Below.refl _ w).alloc (Nat.le_refl _) _
 have hrg := Lib.hid hB.out.range
 obtain ⟨rr, hre⟩ : ∃ rr, Hid (rC x = rr) := ⟨_, rfl⟩
 rw [hre.out] at hrg z0 hW0 hsg ⊢
 have hq0 : Hid (∀ W, Below W0.heap.size W0 W → W.cell? ⟨tb, 0, none⟩ = some (.int .i64 x.no)) := fun W h => (hB.out.below h hB.out.lt).at_ (i := 0) rfl
 have hq1 : Hid (∀ W, Below W0.heap.size W0 W → W.rangeAt tb 33 (bv x.prev)) := fun W h j u hj => (hB.out.below h hB.out.lt).at_ (rC_prev hx'.out.dig hj)
 have hfin : Hid (∀ W, Below W0.heap.size W0 W → Below w.heap.size w W) := fun W h => hb.out.trans (h.mono hb.out.size)
 have hT0 := Lib.hid (HT'.out.below hb.out)
 have heq := fun W => eq_zd ⟨hx'.out.prev, hx'.out.prevl⟩ W
 obtain ⟨P, hP⟩ : ∃ P, decide (x.prev = Go.Dr.zd) = P := ⟨_, rfl⟩
 rw [hP] at heq hVS
 obtain ⟨pv, hpv⟩ : ∃ pv, Hid (bv x.prev = pv) := ⟨_, rfl⟩
 rw [hpv.out] at heq z1 hq1
 clear hP hpv hre hB hb HT' hp' hx'
 go_enter Tryz.func84, Tryz.ntmps84
 go_wp2_with (first
  | (rw [hW0.out, htb.out])
   | (refine wpList_load_mid (by rfl) 62 (.tmp 6) (by rfl) tb 0 (by rfl) rr _ hrg.out Tryz.underlying62 (by rfl) z0.out ?_))
 refine (hsg.out _ hT0.out).mono ?_
 rintro e w1 ⟨rfl, hb1⟩
 have hend := Lib.hid (hfin.out _ hb1)
 have y0 := hq0.out _ hb1
 have y1 := Lib.hid (hq1.out _ hb1)
 clear hb1 hfin hq0 hq1 hsg hrg
 cases S with
 | false =>
  have hv := hVS.out
  rw [Bool.false_and] at hv
  clear hVS heq
  subst hv
  go_wp2_with fail
  go_ret
  exact ⟨rfl, hend.out⟩
 | true =>
  by_cases h1 : 1 < x.no
  · have h1' : decide (1 < x.no) = true := by simpa using h1
    have hv := hVS.out
    rw [h1', Bool.true_or, Bool.and_true] at hv
    clear hVS heq
    subst hv
    go_wp2_with fail
    go_ret
    exact ⟨rfl, hend.out⟩
  · have h1' : decide (1 < x.no) = false := by simpa using h1
    have hv := hVS.out
    rw [h1', Bool.false_or, Bool.true_and] at hv
    clear hVS
    subst hv
    go_wp2_with (first
     | (refine wpList_load_gd (by rfl) 43 (.tmp 16) (by rfl) tb 33 (by rfl) pv _ y1.out Tryz.underlying43 (by rfl) z1.out ?_))
    go_ret
    exact ⟨rfl, hend.out⟩
end Go.Proofs.YtlpgjdlkjahdgaaGreatDoor
namespace Go.Proofs.YtlpgjdlkjahdgaaGreatDoor
open Go.RowKit Go.Mem
open Go.Dr (Lst Rt Dir Wt)

theorem cellsGr : Tryz.prog.cellsOf 121 = 67 := by kernel_rfl
theorem keyTGr : Tryz.prog.keyTypeAt 4 121 = true := by kernel_rfl
theorem formed_grt {x : Rt} (ok : OkQ x) : (Value.agg (rC x).toArray).formed Tryz.prog 121 = true := by
 simp [Value.formed, rC_length ok, cellsGr]
set_option maxRecDepth 20000 in
theorem keyLits_grt (D : Nat) {x : Rt} (ok : OkQ x) : Tryz.prog.keyLits (D + 4) 121 (rC x) = some (litR x) := by
 have q := keyLits_rt D ok
 have hlen : (rC x).length = Tryz.prog.cellsOf 121 := by rw [rC_length ok, cellsGr]
 have htk : ((rC x).drop 0).take 67 = rC x := by rw [List.drop_zero, List.take_of_length_le (by rw [rC_length ok]; omega)]
 obtain ⟨cs, hcs⟩ : ∃ cs, cs = rC x := ⟨_, rfl⟩
 rw [← hcs] at q hlen htk ⊢
 unfold Program.keyLits
 rw [Tryz.underlying121]
 match cs, hlen with
 | [], hl => rw [cellsGr] at hl; cases hl
 | c :: r, hl =>
  simp only [hl]
  rw [if_pos ⟨trivial, by kernel_rfl⟩]
  simp only [List.mapM_cons, List.mapM_nil, cellsRt, htk, q]
  simp
theorem eq_groot {a b : Rt} (ha : OkQ a) (hb : OkQ b) (w : World) : (Op.equalIn 10000 121 (.agg (rC a).toArray) (.agg (rC b).toArray)).run Tryz.prog w = .ok (Go.Dr.eqR a b) w := by
 obtain ⟨r, hr, hiff⟩ := run_equalIn_deep (P := Tryz.prog) 9996 4 121 keyTGr w 4 4 (.agg (rC a).toArray) (.agg (rC b).toArray) (litR a) (litR b) (formed_grt ha) (formed_grt hb)
  (by simpa [Value.cells] using keyLits_grt 0 ha) (by simpa [Value.cells] using keyLits_grt 0 hb)
 have e : r = Go.Dr.eqR a b := by
  rw [Bool.eq_iff_iff, hiff, Go.Dr.eqR_iff]
  exact ⟨litR_inj ha hb, fun e => by rw [e]⟩
 rw [← e]
 exact hr
theorem sizeGr : (Tryz.prog.info? 121).map (·.size) = some 67 := by kernel_rfl

set_option maxRecDepth 20000 in
set_option maxHeartbeats 4000000 in
theorem contra_any (a c : Rt) (ha : OkQ a) (hc : OkQ c) (h1 : 1 ≤ c.no) (w : World) (HT : Tabs w) :
 Calls Tryz.prog 85 #[.agg (rC a).toArray, .agg (rC c).toArray] w (RetBo (Go.Dr.contraB a c) w) := by
 have HT' := Lib.hid HT; have ha' := Lib.hid ha; have hc' := Lib.hid hc
 clear HT ha hc
 obtain ⟨tb, htb⟩ : ∃ tb, Hid (w.heap.size = tb) := ⟨_, rfl⟩
 obtain ⟨tc, htc⟩ : ∃ tc, Hid (tb + 1 = tc) := ⟨_, rfl⟩
 have z0 : Hid ((Tryz.prog.info? 121).map (·.size) = some (rC a).length) := by show _ = _; rw [rC_length ha'.out]; exact sizeGr
 have z1 : Hid ((Tryz.prog.info? 121).map (·.size) = some (rC c).length) := by show _ = _; rw [rC_length hc'.out]; exact sizeGr
 have z2 : Hid ((Tryz.prog.info? 62).map (·.size) = some (rC a).length) := by show _ = _; rw [rC_length ha'.out]; exact sizeR
 have z3 : Hid ((Tryz.prog.info? 43).map (·.size) = some (bv c.prev).length) := by show _ = _; rw [bv_length, hc'.out.prev]; exact size35
 have hq2 := hc'.out.prev
 have hdd : Dig c.prev := ⟨hc'.out.prev, hc'.out.prevl⟩
 have hDi : Dig (Go.Dr.idR a) := ⟨Sha.tagged_length _ _, Sha.tagged_lt _ _⟩
 obtain ⟨W0, hW0⟩ : ∃ W, Hid ((w.alloc (.cells (rC a).toArray 121)).alloc (.cells (rC c).toArray 121) = W) := ⟨_, rfl⟩
 have hB : Hid (Blk W0 tb 121 (rC a)) := by rw [← hW0.out, ← htb.out]; exact (Blk.new w _ (rC a)).alloc _
 have hC : Hid (Blk W0 tc 121 (rC c)) := by
  rw [← hW0.out, ← htc.out, ← htb.out]
  have := Blk.new (w.alloc (.cells (rC a).toArray 121)) 121 (rC c)
  rwa [World.size_alloc] at this
 have hb : Hid (Below w.heap.size w W0) := by rw [← hW0.out]; exact ((Below.refl _ w).alloc (Nat.le_refl _) _).alloc (by simp) _
 have hid := Lib.hid (fun W hT => id_any a ha'.out W hT)
 have heq := fun W => eq_groot ha'.out hc'.out W
 have hdq := fun W => eq_dig hdd hDi W
 obtain ⟨V, hV⟩ : ∃ V, Hid (Go.Dr.contraB a c = V) := ⟨_, rfl⟩
 have hVe := hV.out
 unfold Go.Dr.contraB at hVe
 rw [hV.out]
 obtain ⟨E, hE⟩ : ∃ E, Go.Dr.eqR a c = E := ⟨_, rfl⟩
 obtain ⟨D, hD⟩ : ∃ D, Hid (Go.Dr.idR a = D) := ⟨_, rfl⟩
 rw [hE] at heq hVe
 rw [hD.out] at hVe hdq hid
 obtain ⟨G, hG⟩ : ∃ G, decide (c.prev = D) = G := ⟨_, rfl⟩
 rw [hG] at hVe hdq
 have hVe' := Lib.hid hVe
 have y0 := hB.out.at_ (i := 0) (x := .int .i64 a.no) rfl
 have y1 := hC.out.at_ (i := 0) (x := .int .i64 c.no) rfl
 have hrd : Hid (∀ W, Below W0.heap.size W0 W → W.rangeAt tc 33 (bv c.prev)) := fun W h j u hj => (hC.out.below h hC.out.lt).at_ (rC_prev hc'.out.dig hj)
 obtain ⟨ra, hra⟩ : ∃ ra, Hid (rC a = ra) := ⟨_, rfl⟩
 obtain ⟨rc, hrc⟩ : ∃ rc, Hid (rC c = rc) := ⟨_, rfl⟩
 obtain ⟨pv, hpv⟩ : ∃ pv, Hid (bv c.prev = pv) := ⟨_, rfl⟩
 have hno := hc'.out.no
 rw [hra.out] at z0 z2 hW0 hB heq hid ⊢
 rw [hrc.out] at z1 hW0 hC heq ⊢
 rw [hpv.out] at z3 hdq hrd
 clear hVe hE hG hD hV hra hrc hpv hDi hdd hq2
 go_enter Tryz.func85, Tryz.ntmps85
 by_cases hn : a.no = c.no
 · have hn' : (a.no == c.no) = true := by simpa using hn
   have hrg0 := Lib.hid hB.out.range
   have hrg1 := Lib.hid hC.out.range
   have hend := Lib.hid hb.out
   have hv := hVe'.out
   rw [if_pos hn] at hv
   clear hVe' hB hC hdq hid hn hno
   subst hv
   go_wp2_with (first
    | (rw [hW0.out, htb.out, htc.out])
     | (rw [hW0.out, htb.out])
     | (refine wpList_load_mid (by rfl) 121 (.tmp 2) (by rfl) tb 0 (by rfl) ra _ hrg0.out Tryz.underlying121 (by rfl) z0.out ?_)
     | (refine wpList_load_mid (by rfl) 121 (.tmp 3) (by rfl) tc 0 (by rfl) rc _ hrg1.out Tryz.underlying121 (by rfl) z1.out ?_))
   go_ret
   exact ⟨rfl, hend.out⟩
 · have hn' : (a.no == c.no) = false := by simpa using hn
   obtain ⟨m, hm⟩ : ∃ m, c.no - 1 = m := ⟨_, rfl⟩
   have hw : Hid (IntKind.i64.wrap m = m) := by show _ = _; unfold I64 at hno; rw [IntKind.wrap_i64]; omega
   have hv := hVe'.out
   rw [if_neg hn, hm] at hv
   clear hVe' heq z0 z1
   go_upto_region 3 with (first
    | (rw [hW0.out, htb.out, htc.out])
     | (rw [hW0.out, htb.out]))
   have hya : Hid (∀ W, Below W0.heap.size W0 W → W.cell? ⟨tb, 0, none⟩ = some (.int .i64 a.no)) := fun W h => by rw [h.cell (p := ⟨tb, 0, none⟩) hB.out.lt]; exact y0
   have hyc : Hid (∀ W, Below W0.heap.size W0 W → W.cell? ⟨tc, 0, none⟩ = some (.int .i64 c.no)) := fun W h => by rw [h.cell (p := ⟨tc, 0, none⟩) hC.out.lt]; exact y1
   clear y0 y1
   by_cases hh : a.no = m
   · have he : (a.no == m) = true := by simpa using hh
     rw [decide_eq_true hh, Bool.true_and] at hv
     clear hh
     subst hv
     refine wp_region_held_drew (S := fun wz => Below W0.heap.size W0 wz) (by kernel_rfl) ((Below.refl _ W0).drew) (fun hHeld => ?_)
     generalize hW1 : W0.drew = W1 at *
     clear hW1
     refine tQ 0 rfl hHeld ?_
     refine tQ 1 rfl hHeld ?_
     refine tG 2 (v := ?_) rfl (Or.inl ⟨by rfl, ?_⟩) hHeld ?_
     rotate_left
     · intro wz hSw
       have q0 : wz.cell? ⟨tb, 0, none⟩ = some (.int .i64 a.no) := hya.out wz hSw
       go_simp
       all_goals (with_reducible rfl)
     try simp only [Act.put, sA, s0, s1]
     refine tQ 3 rfl hHeld ?_
     refine tQ 4 rfl hHeld ?_
     refine tG 5 (v := ?_) rfl (Or.inl ⟨by rfl, ?_⟩) hHeld ?_
     rotate_left
     · intro wz hSw
       have q0 : wz.cell? ⟨tc, 0, none⟩ = some (.int .i64 c.no) := hyc.out wz hSw
       go_simp
       all_goals (with_reducible rfl)
     try simp only [Act.put, sA, s0, s1]
     refine tX 6 rfl (fun wz hSw => And.intro (hm) (hw.out)) hHeld ?_
     refine tX 7 rfl (fun wz hSw => he) hHeld ?_
     refine tQ 8 rfl hHeld ?_
     refine tQ 9 rfl hHeld ?_
     refine tQ 10 rfl hHeld ?_
     refine tY 11 rfl tc 33 (pv) (fun wz h => hrd.out wz h) Tryz.underlying43 z3.out hHeld ?_
     refine tQ 12 rfl hHeld ?_
     refine tY 13 rfl tb 0 (ra) (fun wz h => (hB.out.below h hB.out.lt).range) Tryz.underlying62 z2.out hHeld ?_
     refine tO 14 rfl (fun K hK => ?_)
     go_simp
     go_at_call 131
     refine (hid.out _ (HT'.out.below (hb.out.trans (hHeld.mono hb.out.size)))).mono ?_
     rintro e W2 ⟨rfl, hst⟩
     refine hK.out _ _ (hHeld.trans (hst.mono hHeld.size)) (fun hHeld2 => ?_)
     clear hHeld hst
     have hHeld := hHeld2
     clear hHeld2
     clear hK K
     try simp only [Act.put, sA, s0, s1]
     refine tX 15 rfl (fun wz hSw => hdq) hHeld ?_
     refine tQ 16 rfl hHeld ?_
     refine tQ 17 rfl hHeld ?_
     refine wpAnyH_done (by kernel_rfl) ?_ _
     have hend := hb.out.trans (hHeld.mono hb.out.size)
     go_wp2_with fail
     go_ret
     exact ⟨rfl, hend⟩
   · have he : (a.no == m) = false := by simpa using hh
     rw [decide_eq_false hh, Bool.false_and] at hv
     clear hh
     subst hv
     refine wp_region_held_drew (S := fun wz => Below W0.heap.size W0 wz) (by kernel_rfl) ((Below.refl _ W0).drew) (fun hHeld => ?_)
     generalize hW1 : W0.drew = W1 at *
     clear hW1
     refine tQ 0 rfl hHeld ?_
     refine tQ 1 rfl hHeld ?_
     refine tG 2 (v := ?_) rfl (Or.inl ⟨by rfl, ?_⟩) hHeld ?_
     rotate_left
     · intro wz hSw
       have q0 : wz.cell? ⟨tb, 0, none⟩ = some (.int .i64 a.no) := hya.out wz hSw
       go_simp
       all_goals (with_reducible rfl)
     try simp only [Act.put, sA, s0, s1]
     refine tQ 3 rfl hHeld ?_
     refine tQ 4 rfl hHeld ?_
     refine tG 5 (v := ?_) rfl (Or.inl ⟨by rfl, ?_⟩) hHeld ?_
     rotate_left
     · intro wz hSw
       have q0 : wz.cell? ⟨tc, 0, none⟩ = some (.int .i64 c.no) := hyc.out wz hSw
       go_simp
       all_goals (with_reducible rfl)
     try simp only [Act.put, sA, s0, s1]
     refine tX 6 rfl (fun wz hSw => And.intro (hm) (hw.out)) hHeld ?_
     refine tX 7 rfl (fun wz hSw => he) hHeld ?_
     refine tQ 8 rfl hHeld ?_
     refine tS 9 rfl hHeld ?_
     refine tS 10 rfl hHeld ?_
     refine tS 11 rfl hHeld ?_
     refine tS 12 rfl hHeld ?_
     refine tS 13 rfl hHeld ?_
     refine Go.rd (rs := [14]) ?_
     refine AllReadyH.cons (o := ⟨some 29, .call { callee := .value (.func 131), args := #[.tmp 28], argTypes := #[62] }, 43, "gossip.go:24", #[⟨13, .data⟩, ⟨8, .chain⟩, ⟨8, .guard⟩], some (8, true)⟩) rfl (fun K hK => ?_) AllReadyH.nil
     rw [if_neg (Bool.eq_false_iff.1 (by rfl))]
     refine hK.out _ _ hHeld (fun hHeld => ?_)
     clear hK K
     try simp only [Act.put, sA, s0, s1]
     refine tS 15 rfl hHeld ?_
     refine tQ 16 rfl hHeld ?_
     refine tQ 17 rfl hHeld ?_
     refine wpAnyH_done (by kernel_rfl) ?_ _
     have hend := hb.out.trans (hHeld.mono hb.out.size)
     go_wp2_with fail
     go_ret
     exact ⟨rfl, hend⟩
end Go.Proofs.YtlpgjdlkjahdgaaGreatDoor
namespace Go.Proofs.YtlpgjdlkjahdgaaGreatDoor
open Go.RowKit Go.Mem
open Go.Dr (Lst Rt Dir Wt)

structure Numd (l : List Rt) : Prop where
 up : l.Pairwise (fun a c => a.no < c.no)
 lo : ∀ x ∈ l, 1 ≤ x.no ∧ x.no ≤ 65536
theorem WOk.nums {b : Int} {w : Wt} (h : Go.Dr.WOk b w) : Numd w.rs := ⟨h.up, fun x hx => Go.Dr.proper_no (h.pr x hx)⟩

set_option maxHeartbeats 1000000 in
theorem number_any (x : Rt) (r : List Value) (hr : r = rC x) (w : World) :
 Calls Tryz.prog 90 #[.agg r.toArray] w (fun e w' => e = .returned (.int .i64 x.no) ∧ Below w.heap.size w w') := by
 obtain ⟨W, hW⟩ : ∃ W, Hid (w.alloc (.cells r.toArray 62) = W) := ⟨_, rfl⟩
 have c0 : W.cell? ⟨w.heap.size, 0, none⟩ = some (.int .i64 x.no) := by rw [← hW.out]; exact (Blk.new w _ r).at_ (i := 0) (by rw [hr]; rfl)
 have hb : Hid (Below w.heap.size w W) := by rw [← hW.out]; exact (Below.refl _ w).alloc (Nat.le_refl _) _
 clear hr
 go_enter Tryz.func90, Tryz.ntmps90
 go_upto_region 1 with fail
 rw [hW.out]
 clear hW
 go_wp2_with fail
 go_ret
 exact ⟨rfl, hb.out⟩

set_option maxRecDepth 20000 in
set_option maxHeartbeats 1000000 in
theorem find1_any (fb : Nat) (t : TypeId) (x : Rt) (hx : OkQ x) (k m : Int) (hm : x.no - k = m) (hw : IntKind.i64.wrap m = m) (r : List Value) (hr : r = rC x) (w : World) (H : Blk w fb t [.func (.func 90) #[] #[]]) :
 Calls Tryz.prog 135 #[.agg r.toArray, .int .i64 k, .pointer (some ⟨fb, 0, none⟩)] w (fun e w' => e = .returned (.int .i64 m) ∧ Below w.heap.size w w') := by
 obtain ⟨W, hW⟩ : ∃ W, Hid (w.alloc (.cells r.toArray 62) = W) := ⟨_, rfl⟩
 have hB : Hid (Blk W w.heap.size 62 r) := by rw [← hW.out]; exact Blk.new w _ r
 have c1 : W.cell? ⟨fb, 0, none⟩ = some (.func (.func 90) #[] #[]) := by rw [← hW.out]; exact (H.alloc _).at_ (i := 0) rfl
 have hb : Hid (Below w.heap.size w W) := by rw [← hW.out]; exact (Below.refl _ w).alloc (Nat.le_refl _) _
 have hrg := Lib.hid hB.out.range
 have hri : Hid ((Tryz.prog.info? 62).map (·.size) = some r.length) := by show _ = _; rw [hr, rC_length hx]; exact sizeR
 have hnm := Lib.hid (fun W => number_any x r hr W)
 obtain ⟨tb, htb⟩ : ∃ tb, Hid (w.heap.size = tb) := ⟨_, rfl⟩
 rw [htb.out] at hrg
 clear H hB hx hr
 go_enter Tryz.func135, Tryz.ntmps135
 go_upto_region 1 with fail
 rw [hW.out, htb.out]
 clear hW
 go_wp2_with (first
  | (refine wpList_load_mid (by rfl) 62 (.tmp 3) (by rfl) tb 0 (by rfl) r _ hrg.out Tryz.underlying62 (by rfl) hri.out ?_))
 refine (hnm.out _).mono ?_
 rintro e w1 ⟨rfl, hb1⟩
 have hend := Lib.hid (hb.out.trans (hb1.mono hb.out.size))
 clear hb1 hrg
 go_wp2_with fail
 go_ret
 exact ⟨rfl, hend.out⟩

set_option maxRecDepth 20000 in
set_option maxHeartbeats 2000000 in
theorem bsfR_any (K : Nat → Prop) (a : Option Addr) (n c : Nat) (l : List Rt) (key : Int) (hkey : 1 ≤ key ∧ key ≤ 65536) (fb : Nat) (tf : TypeId) (w : World) (H : QS K w a n c l) (hn : n ≤ 100000) (hs : Numd l) (HB : Blk w fb tf [.func (.func 90) #[] #[]]) :
 Calls Tryz.prog 134 #[.slice a n c, .int .i64 key, .func (.func 135) #[] #[.pointer (some ⟨fb, 0, none⟩)]] w fun e w' => e = .returned (.tuple #[.int .i64 (Go.Dr.posR key l), .bool (Go.Dr.metR key l)]) ∧ Below w.heap.size w w' := by
 have hle := RS.le H
 have hmx := RS.max H
 have hlen := RS.len H
 have H' := Lib.hid H; have HB' := Lib.hid HB; have hs' := Lib.hid hs
 have hkey' := Lib.hid hkey
 obtain ⟨X, hX⟩ : ∃ X : Ending → World → Prop, X = fun e w' => e = .returned (.tuple #[.int .i64 (Go.Dr.posR key l), .bool (Go.Dr.metR key l)]) ∧ Below w.heap.size w w' := ⟨_, rfl⟩
 have hfin : Hid (∀ (p : Nat) (b : Bool) W, Go.Dr.posR key l = p → Go.Dr.metR key l = b → Below w.heap.size w W → X (.returned (.tuple #[.int .i64 (p : Int), .bool b])) W) := fun p b W h1 h2 h3 => by rw [hX]; exact ⟨by rw [h1, h2], h3⟩
 rw [← hX]
 clear hX H HB hs hkey
 go_enter Tryz.func134, Tryz.ntmps134
 go_wp2_with fail
 go_loopw [9, 10] (fun iv jv wr => ∃ (i j : Nat), i ≤ j ∧ j ≤ n ∧ iv = .int .i64 i ∧ jv = .int .i64 j ∧ Hid (∀ p t, p < i → l[p]? = some t → t.no < key) ∧ Hid (∀ p t, j ≤ p → l[p]? = some t → key ≤ t.no) ∧ Hid (Below w.heap.size w wr))
  (fun i j _ => (intOf j - intOf i).toNat)
 case atStart => exact ⟨0, n, Nat.zero_le _, Nat.le_refl _, rfl, rfl, fun p t hp => absurd hp (by omega), fun p t hp ht => absurd (List.getElem?_eq_some_iff.1 ht).1 (by omega), Below.refl _ _⟩
 case round =>
  obtain ⟨i, j, hij, hjn, rfl, rfl, hlo, hhi, hb⟩ := hrel
  by_cases hlt : i < j
  · have hlt' : (i : Int) < (j : Int) := by omega
    have hm1 : (i + j) / 2 < n := by omega
    have hm2 : i ≤ (i + j) / 2 ∧ (i + j) / 2 < j := by omega
    have hkl : (i + j) / 2 < l.length := by omega
    have hget : l[(i + j) / 2]? = some l[(i + j) / 2] := List.getElem?_eq_getElem hkl
    obtain ⟨b, off, rfl, hbs, _, hox, hrg⟩ := QS.cells (H'.out.below hb.out) hget
    generalize l[(i + j) / 2] = t at *
    have hrg' := Lib.hid hrg
    have hri : Hid ((Tryz.prog.info? 62).map (·.size) = some (rC t).length) := by show _ = _; rw [rC_length hox]; exact sizeR
    have htn := hs'.out.lo t (List.mem_of_getElem? hget)
    have hkk := hkey'.out
    obtain ⟨m, hm⟩ : ∃ m, t.no - key = m := ⟨_, rfl⟩
    have hw : IntKind.i64.wrap m = m := by rw [IntKind.wrap_i64]; omega
    have hcl := Lib.hid (find1_any fb tf t hox key m hm hw (rC t) rfl wr (HB'.out.below hb.out HB'.out.lt))
    obtain ⟨r, hr⟩ : ∃ r, Hid (rC t = r) := ⟨_, rfl⟩
    rw [hr.out] at hrg' hri hcl
    clear hrg hw
    have hi1 : ((i : Int) + (j : Int)) / 2 < (n : Int) := by omega
    have hi2 : (0 : Int) ≤ ((i : Int) + (j : Int)) / 2 := by omega
    have hi3 : (((i : Int) + (j : Int)) / 2).toNat = (i + j) / 2 := by omega
    by_cases hk : t.no < key
    · have hcm : m < 0 := by omega
      have hlo' : Hid (∀ p u, p < (i + j) / 2 + 1 → l[p]? = some u → u.no < key) := fun p u hp hu => by
       by_cases e : p = (i + j) / 2
       · subst e; rw [hget] at hu; cases hu; exact hk
       · exact Int.lt_trans (Go.Dr.up_lt hs'.out.up (by omega) hu hget) hk
      clear hlo hget hkl hox htn hkk hk hm
      go_wp2_with (first
       | (refine wpList_load_mid (by rfl) 62 (.tmp 27) (by rfl) b (off + (i + j) / 2 * 67) (by rfl) r _ hrg'.out Tryz.underlying62 (by rfl) hri.out ?_))
      refine hcl.out.mono ?_
      rintro e2 w2 ⟨rfl, hb2⟩
      have hb3 := Lib.hid (hb.out.trans (hb2.mono hb.out.size))
      clear hb2 hcl hrg'
      go_wp2_with fail
      go_roundw
      case rel => exact ⟨(i + j) / 2 + 1, j, by omega, hjn, by go_num, rfl, hlo', hhi, hb3⟩
      case measure => simp [intOf]; omega
    · have hcm : decide (m < 0) = false := by simp; omega
      have hhi' : Hid (∀ p u, (i + j) / 2 ≤ p → l[p]? = some u → key ≤ u.no) := fun p u hp hu => by
       by_cases e : p = (i + j) / 2
       · subst e; rw [hget] at hu; cases hu; omega
       · have := Go.Dr.up_lt hs'.out.up (show (i + j) / 2 < p by omega) hget hu; omega
      clear hhi hget hkl hox htn hkk hk hm
      go_wp2_with (first
       | (refine wpList_load_mid (by rfl) 62 (.tmp 27) (by rfl) b (off + (i + j) / 2 * 67) (by rfl) r _ hrg'.out Tryz.underlying62 (by rfl) hri.out ?_))
      refine hcl.out.mono ?_
      rintro e2 w2 ⟨rfl, hb2⟩
      have hb3 := Lib.hid (hb.out.trans (hb2.mono hb.out.size))
      clear hb2 hcl hrg'
      go_wp2_with fail
      go_roundw
      case rel => exact ⟨i, (i + j) / 2, by omega, by omega, rfl, by go_num, hlo, hhi', hb3⟩
      case measure => simp [intOf]; omega
  · obtain rfl : i = j := by omega
    have hpos : Go.Dr.posR key l = i := Go.Dr.posR_eq (by omega) hlo.out (fun x hx => hhi.out i x (Nat.le_refl _) hx)
    by_cases hin : i < n
    · have hkl : i < l.length := by omega
      have hget : l[i]? = some l[i] := List.getElem?_eq_getElem hkl
      obtain ⟨b, off, rfl, hbs, _, hox, hrg⟩ := QS.cells (H'.out.below hb.out) hget
      generalize l[i] = t at *
      have hrg' := Lib.hid hrg
      have hri : Hid ((Tryz.prog.info? 62).map (·.size) = some (rC t).length) := by show _ = _; rw [rC_length hox]; exact sizeR
      have htn := hs'.out.lo t (List.mem_of_getElem? hget)
      have hkk := hkey'.out
      obtain ⟨m, hm⟩ : ∃ m, t.no - key = m := ⟨_, rfl⟩
      have hw : IntKind.i64.wrap m = m := by rw [IntKind.wrap_i64]; omega
      have hcl := Lib.hid (find1_any fb tf t hox key m hm hw (rC t) rfl wr (HB'.out.below hb.out HB'.out.lt))
      obtain ⟨r, hr⟩ : ∃ r, Hid (rC t = r) := ⟨_, rfl⟩
      rw [hr.out] at hrg' hri hcl
      have hmet : Go.Dr.metR key l = decide (m = 0) := by
       unfold Go.Dr.metR
       rw [hpos, hget]
       show decide (t.no = key) = _
       rw [decide_eq_decide]
       omega
      have hin' : (i : Int) < (n : Int) := by omega
      have hi0 : (0 : Int) ≤ (i : Int) := by omega
      by_cases h0 : m = 0
      · have h0' : (m == 0) = true := by simpa using h0
        rw [decide_eq_true h0] at hmet
        have hf := Lib.hid (fun W hW => hfin.out i true W hpos hmet hW)
        clear hlo hhi hget hkl hpos hmet h0 hm hw hox htn hkk hrg hfin
        go_wp2_with (first
         | (refine wpList_load_gd (by rfl) 62 (.tmp 43) (by rfl) b (off + i * 67) (by rfl) r _ hrg'.out Tryz.underlying62 (by rfl) hri.out ?_))
        refine hcl.out.mono ?_
        rintro e2 w2 ⟨rfl, hb2⟩
        have hend := Lib.hid (hf.out _ (hb.out.trans (hb2.mono hb.out.size)))
        clear hb2 hcl hrg'
        go_wp2_with fail
        exact hend.out
      · have h0' : (m == 0) = false := by simpa using h0
        rw [decide_eq_false h0] at hmet
        have hf := Lib.hid (fun W hW => hfin.out i false W hpos hmet hW)
        clear hlo hhi hget hkl hpos hmet h0 hm hw hox htn hkk hrg hfin
        go_wp2_with (first
         | (refine wpList_load_gd (by rfl) 62 (.tmp 43) (by rfl) b (off + i * 67) (by rfl) r _ hrg'.out Tryz.underlying62 (by rfl) hri.out ?_))
        refine hcl.out.mono ?_
        rintro e2 w2 ⟨rfl, hb2⟩
        have hend := Lib.hid (hf.out _ (hb.out.trans (hb2.mono hb.out.size)))
        clear hb2 hcl hrg'
        go_wp2_with fail
        exact hend.out
    · obtain rfl : i = n := by omega
      have hmet : Go.Dr.metR key l = false := by
       unfold Go.Dr.metR
       rw [hpos, List.getElem?_eq_none (by omega)]
      have hend := Lib.hid (hfin.out i false wr hpos hmet hb.out)
      clear hlo hhi hpos hmet hfin
      go_wp2_with fail
      exact hend.out

set_option maxRecDepth 20000 in
set_option maxHeartbeats 1000000 in
theorem find_any (K : Nat → Prop) (a : Option Addr) (n c : Nat) (l : List Rt) (key : Int) (hkey : 1 ≤ key ∧ key ≤ 65536) (w : World) (H : QS K w a n c l) (hn : n ≤ 100000) (hs : Numd l) :
 Calls Tryz.prog 89 #[.slice a n c, .func (.func 90) #[] #[], .int .i64 key] w fun e w' => e = .returned (.tuple #[.int .i64 (Go.Dr.posR key l), .bool (Go.Dr.metR key l)]) ∧ Below w.heap.size w w' := by
 have H' := Lib.hid H; have hs' := Lib.hid hs
 obtain ⟨p, hp⟩ : ∃ p, Hid (Go.Dr.posR key l = p) := ⟨_, rfl⟩
 obtain ⟨q, hq⟩ : ∃ q, Hid (Go.Dr.metR key l = q) := ⟨_, rfl⟩
 obtain ⟨W, hW⟩ : ∃ W, Hid (w.alloc (.cells #[.func (.func 90) #[] #[]] 128) = W) := ⟨_, rfl⟩
 have hB : Hid (Blk W w.heap.size 128 [.func (.func 90) #[] #[]]) := by rw [← hW.out]; exact Blk.new w _ [.func (.func 90) #[] #[]]
 have hb : Hid (Below w.heap.size w W) := by rw [← hW.out]; exact (Below.refl _ w).alloc (Nat.le_refl _) _
 have hcl := Lib.hid (bsfR_any K a n c l key hkey w.heap.size _ W (H.below hb.out) hn hs hB.out)
 rw [hp.out, hq.out] at hcl ⊢
 clear H hs hkey hB
 go_enter Tryz.func89, Tryz.ntmps89
 go_upto_region 1 with fail
 rw [hW.out]
 clear hW
 go_wp2_with fail
 refine hcl.out.mono ?_
 rintro e w1 ⟨rfl, hb1⟩
 have hend := Lib.hid (hb.out.trans (hb1.mono hb.out.size))
 clear hb1 hcl
 go_wp2_with fail
 go_ret2
 exact ⟨rfl, hend.out⟩
end Go.Proofs.YtlpgjdlkjahdgaaGreatDoor
namespace Go
theorem wpList_build_run {P : Program} {ops : Array Oper} {rest : List Oper} {op : Oper} {a : Act} {w : World} {Q : Exit → Act → World → Prop} {v : Value} (hw : Region.wanted op (yielded ops a.tmps) = true) (t : TypeId) (parts : Array (Nat × Operand)) (ho : op.op = .build t parts) (ps : Array (Nat × Value)) (hp : (parts.map fun (i, x) => (i, a.eval x)) = ps) (hr : (Instr.build t ps).run P w = .ok v w)
 (h : wpList P ops Q rest (a.put op.dst v) w) : wpList P ops Q (op :: rest) a w :=
 BigFrame.wpList_want hw fun _ hK => by
  unfold Oper.wp execOp
  simp only [ho, hp, Sem.run_bind, hr, Result.andThen_ok, Sem.run_pure]
  exact hK _ _ h
end Go
namespace Go.Proofs.YtlpgjdlkjahdgaaGreatDoor
open Go.RowKit Go.Mem
open Go.Dr (Lst Rt Dir Wt)

def wtC (p : Int) (a : Option Addr) (n c : Nat) : List Value := [.int .i64 p, .slice a n c]
theorem sizeWt : (Tryz.prog.info? 69).map (·.size) = some 2 := by kernel_rfl
theorem wt_one (p : Int) (a : Option Addr) (n c : Nat) : ∀ u ∈ wtC p a n c, u.oneCell' = true := by intro u hu; simp only [wtC, List.mem_cons, List.not_mem_nil, or_false] at hu; rcases hu with rfl | rfl <;> rfl
structure WM (K : Nat → Prop) (w : World) (V : Wt) (a : Option Addr) (n c : Nat) : Prop where
 pub : I64 V.pub
 qs : QS K w a n c V.rs
section
variable {K K' : Nat → Prop} {w w' : World} {V : Wt} {a : Option Addr} {n c : Nat}
theorem WM.below (h : WM K w V a n c) (hb : Below w.heap.size w w') : WM K w' V a n c := ⟨h.pub, h.qs.below hb⟩
theorem WM.imp (h : WM K w V a n c) (hK : ∀ b, b < w.heap.size → K b → K' b) : WM K' w V a n c := ⟨h.pub, h.qs.imp hK⟩
theorem WM.keep (h : WM K w V a n c) (hk : Keeps K w w') : WM K w' V a n c := ⟨h.pub, h.qs.keep hk⟩
theorem WM.len (h : WM K w V a n c) : V.rs.length = n := RS.len h.qs
theorem WM.n63 (h : WM K w V a n c) : (n : Int) ≤ 9223372036854775807 := by have := RS.le h.qs; have := RS.max h.qs; omega
end
set_option maxRecDepth 20000 in
theorem groot_build0 (m r s : Int) (f g : Nat → Nat) (W : World) : (Instr.build 121 #[(0, .agg (rC ⟨m, rD f, rD g, r, s⟩).toArray)]).run Tryz.prog W = .ok (.agg (rC ⟨m, rD f, rD g, r, s⟩).toArray) W := by
 unfold rD
 kernel_rfl
theorem groot_build {x : Rt} (hx : OkQ x) (W : World) : (Instr.build 121 #[(0, .agg (rC x).toArray)]).run Tryz.prog W = .ok (.agg (rC x).toArray) W := by
 have h := groot_build0 x.no x.r x.s (fD x.dig) (fD x.prev) W
 rwa [rD_fD hx.dig, rD_fD hx.prev] at h

theorem QS.at_ {K : Nat → Prop} {w : World} {b off n c : Nat} {l : List Rt} (h : QS K w (some ⟨b, off, none⟩) n c l) {k : Nat} {x : Rt} (hx : l[k]? = some x) : w.rangeAt b (off + k * 67) (rC x) := by
 obtain ⟨b', off', e, _, _, _, hr⟩ := h.cells hx
 simp only [Option.some.injEq, Addr.mk.injEq, and_true] at e
 obtain ⟨rfl, rfl⟩ := e
 exact hr
theorem QS.okAt {K : Nat → Prop} {w : World} {a : Option Addr} {n c : Nat} {l : List Rt} (h : QS K w a n c l) {k : Nat} {x : Rt} (hx : l[k]? = some x) : OkQ x := by obtain ⟨_, _, _, _, _, ho, _⟩ := h.cells hx; exact ho
def prevQ (l : List Rt) (k : Nat) : Option Rt := (l.take k).getLast?
theorem prevQ_zero (l : List Rt) : prevQ l 0 = none := rfl
theorem prevQ_succ {l : List Rt} {k : Nat} {x : Rt} (h : l[k]? = some x) : prevQ l (k + 1) = some x := by
 unfold prevQ
 rw [List.take_add_one, h, Option.toList_some, List.getLast?_concat]
def chkW (b : Int) (V : Wt) : Int := if Go.Dr.wchk b V then 0 else 360

set_option maxRecDepth 20000 in
set_option maxHeartbeats 8000000 in
theorem gchk_any (K : Nat → Prop) (V : Wt) (a : Option Addr) (n c : Nat) (w : World) (HT : Tabs w) (H : WM K w V a n c) :
 Calls Tryz.prog 43 #[.agg (wtC V.pub a n c).toArray] w (RetI (chkW 4 V) w) := by
 have HT' := Lib.hid HT; have H' := Lib.hid H
 have n63 := H.n63
 have hlen := H.len
 clear HT H
 obtain ⟨tb, htb⟩ : ∃ tb, Hid (w.heap.size = tb) := ⟨_, rfl⟩
 obtain ⟨W0, hW0⟩ : ∃ W, Hid (w.alloc (.cells (wtC V.pub a n c).toArray 69) = W) := ⟨_, rfl⟩
 have hB : Hid (Blk W0 tb 69 (wtC V.pub a n c)) := by rw [← hW0.out, ← htb.out]; exact Blk.new w _ (wtC V.pub a n c)
 have hb : Hid (Below w.heap.size w W0) := by rw [← hW0.out]; exact (Below.refl _ w).alloc (Nat.le_refl _) _
 obtain ⟨X, hX⟩ : ∃ X, X = RetI (chkW 4 V) w := ⟨_, rfl⟩
 have hf1 : Hid (∀ W, Below W0.heap.size W0 W → Go.Dr.wchk 4 V = true → X (.returned (.int .i64 0)) W) := fun W h1 h2 => by rw [hX]; exact ⟨by unfold chkW; rw [if_pos h2], hb.out.trans (h1.mono hb.out.size)⟩
 have hf2 : Hid (∀ W, Below W0.heap.size W0 W → Go.Dr.wchk 4 V = false → X (.returned (.int .i64 360)) W) := fun W h1 h2 => by rw [hX]; exact ⟨by unfold chkW; rw [if_neg (by rw [h2]; simp)], hb.out.trans (h1.mono hb.out.size)⟩
 have hT0 := Lib.hid (HT'.out.below hb.out)
 have hM0 := Lib.hid (H'.out.below hb.out)
 rw [← hX]
 clear hX HT' H'
 have y1 := hB.out.at_ (i := 1) (x := .slice a n c) rfl
 go_enter Tryz.func43, Tryz.ntmps43
 go_wp2_with (first
  | (rw [hW0.out, htb.out]))
 clear y1
 go_loopw [8] (fun i wr => ∃ k : Nat, k ≤ n ∧ i = .int .i64 k ∧ Hid (Go.Dr.wchkGo 4 V.pub (prevQ V.rs k) (V.rs.drop k) = Go.Dr.wchk 4 V) ∧ Hid (Below W0.heap.size W0 wr)) (fun i _ => n - (intOf i).toNat)
 case atStart => exact ⟨0, Nat.zero_le _, rfl, rfl, Below.refl _ _⟩
 case round =>
  obtain ⟨k, hk, rfl, hgo, hbr⟩ := hrel
  by_cases hlt : k < n
  · have hkl : k < V.rs.length := by omega
    obtain ⟨x, hx⟩ : ∃ x, V.rs[k]? = some x := ⟨_, List.getElem?_eq_getElem hkl⟩
    have hdrop : V.rs.drop k = x :: V.rs.drop (k + 1) := by rw [List.drop_eq_getElem_cons hkl, (List.getElem?_eq_some_iff.1 hx).2]
    have hgo2 := hgo.out
    rw [hdrop] at hgo2
    unfold Go.Dr.wchkGo at hgo2
    have hgo' := Lib.hid hgo2
    have hMr := Lib.hid (hM0.out.below hbr.out)
    have hTr := Lib.hid (hT0.out.below hbr.out)
    have hBr := Lib.hid (hB.out.below hbr.out hB.out.lt)
    obtain ⟨b, off, rfl, hbl, _, hox, hrg0⟩ := hMr.out.qs.cells hx
    have hri : Hid ((Tryz.prog.info? 62).map (·.size) = some (rC x).length) := by show _ = _; rw [rC_length hox]; exact sizeR
    obtain ⟨V6, hP6⟩ : ∃ V, Hid (PutR 62 (wr.alloc (.cells (rC Go.Dr.zeroR).toArray 62)) V wr.heap.size 62 (rC x)) := put_row (Blk.new wr 62 (rC Go.Dr.zeroR)) (by rw [rC_length hox, rC_length okZ]) (hri.out) (rC_one x)
    have hst6 := below_grown ((Below.refl _ wr).alloc (Nat.le_refl _) _) hP6.out.grown (by simp) (Nat.le_refl _)
    have hb6 := Lib.hid (hbr.out.trans (hst6.mono hbr.out.size))
    have hB6 := Lib.hid hP6.out.blk
    have hr6 := Lib.hid hB6.out.range
    have y0 := (hB.out.below hb6.out hB.out.lt).at_ (i := 0) (x := .int .i64 V.pub) rfl
    have hpr := Lib.hid (fun W hT => proper_any x hox V.pub hM0.out.pub W hT)
    obtain ⟨S, hS⟩ : ∃ S, Hid (Go.Dr.properB 4 V.pub x = S) := ⟨_, rfl⟩
    have hno : Hid (S = true → 1 ≤ x.no ∧ x.no ≤ 65536) := fun h => Go.Dr.proper_no (by rw [hS.out]; exact h)
    rw [hS.out] at hpr hgo'
    have hbld := groot_build hox
    have hox' := Lib.hid hox
    obtain ⟨rr, hre⟩ : ∃ rr, Hid (rC x = rr) := ⟨_, rfl⟩
    have hrg := Lib.hid hrg0
    have hn0 := Lib.hid (hB6.out.at_ (i := 0) (x := .int .i64 x.no) rfl)
    rw [hre.out] at hrg hri hP6 hr6 hB6 hpr hbld
    have hbld' := Lib.hid hbld
    obtain ⟨xb, hxb⟩ : ∃ xb, Hid (wr.heap.size = xb) := ⟨_, rfl⟩
    rw [hxb.out] at hr6 hB6 hn0
    have k0 : (0 : Int) ≤ (k : Int) := by omega
    have k1 : (k : Int) < (n : Int) := by omega
    have hmv := Lib.hid (hM0.out.below hb6.out)
    have hx' := Lib.hid hx
    have hlast : Hid (prevQ V.rs (k + 1) = some x) := prevQ_succ hx
    clear hrg0 hx hkl hgo hgo2 hdrop hMr hTr hBr hox hst6 hbld
    go_wp2_with (first
     | (refine wpList_load_mid (by rfl) 62 (.tmp 11) (by rfl) b (off + k * 67) (by rfl) rr _ hrg.out Tryz.underlying62 (by rfl) hri.out ?_)
      | (refine wpList_store_mid (by rfl) 62 (.tmp 4) (.tmp 12) (by rfl) wr.heap.size 0 rr.toArray (by rfl) (by rfl) hP6.out.there hP6.out.info (by simpa using hP6.out.one) ?_
         generalize hWq : World.setCells _ _ _ _ = Wa
         obtain rfl : V6 = Wa := by rw [← hWq]; exact hP6.out.eq
         clear hWq
         rw [hxb.out])
      | (refine wpList_load_mid (by rfl) 62 (.tmp 4) (by rfl) xb 0 (by rfl) rr _ hr6.out Tryz.underlying62 (by rfl) hri.out ?_)
      | (refine wpList_build_run (by rfl) 121 _ rfl #[(0, .agg rr.toArray)] (by simp only [List.map_toArray, List.map_cons, List.map_nil]; rfl) (hbld'.out _) ?_))
    refine (hpr.out _ (hT0.out.below hb6.out)).mono ?_
    rintro e w7 ⟨rfl, hst7⟩
    have hb7 := Lib.hid (hb6.out.trans (hst7.mono hb6.out.size))
    have hx7 := Lib.hid (hB6.out.below hst7 hB6.out.lt)
    have hm7 := Lib.hid (hmv.out.below hst7)
    have hB7 := Lib.hid (hB.out.below hb7.out hB.out.lt)
    have hn7 := hn0.out
    rw [← hst7.cell (p := ⟨xb, 0, none⟩) hB6.out.lt] at hn7
    clear hst7 hP6 hr6 y0 hpr hn0 hmv hB6 hrg hb6
    cases S with
    | false =>
     have hend := Lib.hid (hf2.out _ hb7.out (by rw [← hgo'.out, Bool.false_and, Bool.false_and]))
     clear hn7 hf1 hf2
     go_wp2_with fail
     exact hend.out
    | true =>
     have hno' := hno.out rfl
     have hgo3 := hgo'.out
     rw [Bool.true_and] at hgo3
     have hgo4 := Lib.hid hgo3
     clear hgo3 hgo' hno
     go_upto_region 6 with fail
     by_cases hk0 : k = 0
     · subst hk0
       have hgo5 := hgo4.out
       rw [prevQ_zero] at hgo5
       unfold Go.Dr.stepOk at hgo5
       rw [Bool.true_and] at hgo5
       have hgo6 : Hid (Go.Dr.wchkGo 4 V.pub (prevQ V.rs (0 + 1)) (V.rs.drop (0 + 1)) = Go.Dr.wchk 4 V) := by show _ = _; rw [hlast.out]; exact hgo5
       clear hgo5 hgo4 hn7
       refine wp_region_held_drew (S := fun wz => Below w7.heap.size w7 wz) (by kernel_rfl) ((Below.refl _ w7).drew) (fun hHeld => ?_)
       generalize hW1 : w7.drew = W1 at *
       clear hW1
       refine tQ 0 rfl hHeld ?_
       refine tQ 1 rfl hHeld ?_
       refine tQ 2 rfl hHeld ?_
       refine tS 3 rfl hHeld ?_
       refine tS 4 rfl hHeld ?_
       refine tS 5 rfl hHeld ?_
       refine tS 6 rfl hHeld ?_
       refine tS 7 rfl hHeld ?_
       refine tS 8 rfl hHeld ?_
       refine tS 9 rfl hHeld ?_
       refine tS 10 rfl hHeld ?_
       refine tS 11 rfl hHeld ?_
       refine tS 12 rfl hHeld ?_
       refine tS 13 rfl hHeld ?_
       refine tS 14 rfl hHeld ?_
       refine tS 15 rfl hHeld ?_
       refine tS 16 rfl hHeld ?_
       refine tS 17 rfl hHeld ?_
       refine tS 18 rfl hHeld ?_
       refine tS 19 rfl hHeld ?_
       refine tS 20 rfl hHeld ?_
       refine tS 21 rfl hHeld ?_
       refine tS 22 rfl hHeld ?_
       refine Go.rd (rs := [23]) ?_
       refine AllReadyH.cons (o := ⟨some 42, .call { callee := .value (.func 85), args := #[.tmp 39, .tmp 41], argTypes := #[121, 121] }, 4, "gossip.go:43", #[⟨20, .data⟩, ⟨22, .data⟩, ⟨13, .chain⟩, ⟨13, .guard⟩], some (13, false)⟩) rfl (fun K hK => ?_) AllReadyH.nil
       rw [if_neg (Bool.eq_false_iff.1 (by rfl))]
       refine hK.out _ _ hHeld (fun hHeld => ?_)
       clear hK K
       try simp only [Act.put, sA, s0, s1]
       refine tS 24 rfl hHeld ?_
       refine tQ 25 rfl hHeld ?_
       refine wpAnyH_done (by kernel_rfl) ?_ _
       have hb8 := Lib.hid (hb7.out.trans (hHeld.mono hb7.out.size))
       clear hHeld
       go_wp2_with fail
       go_roundw
       case rel => exact ⟨0 + 1, by omega, by go_num, hgo6, hb8⟩
       case measure => simp [intOf]; omega
     · obtain ⟨j, hj⟩ : ∃ j, Hid (k = j + 1) := ⟨k - 1, by show _ = _; omega⟩
       have hjl : j < V.rs.length := by have := hj.out; omega
       obtain ⟨q, hq⟩ : ∃ q, V.rs[j]? = some q := ⟨_, List.getElem?_eq_getElem hjl⟩
       have hgo5 := hgo4.out
       have hpq : prevQ V.rs k = some q := by rw [hj.out]; exact prevQ_succ hq
       rw [hpq, ← hlast.out] at hgo5
       unfold Go.Dr.stepOk at hgo5
       simp only at hgo5
       have hoq := hm7.out.qs.okAt hq
       have hq0 : Hid (∀ wz, Below w7.heap.size w7 wz → wz.cell? ⟨b, off + j * 67, none⟩ = some (.int .i64 q.no)) := fun wz h => by
        have := (hm7.out.qs.below h).at_ hq 0 _ rfl; rwa [Nat.add_zero] at this
       have hrgq : Hid (∀ wz, Below w7.heap.size w7 wz → wz.rangeAt b (off + j * 67) (rC q)) := fun wz h => (hm7.out.qs.below h).at_ hq
       have hriq : Hid ((Tryz.prog.info? 62).map (·.size) = some (rC q).length) := by show _ = _; rw [rC_length hoq]; exact sizeR
       have hbq := Lib.hid (groot_build hoq)
       have hct := Lib.hid (fun W hT => contra_any q x hoq hox'.out hno'.1 W hT)
       rw [hre.out] at hct
       obtain ⟨rq, hrqe⟩ : ∃ rq, Hid (rC q = rq) := ⟨_, rfl⟩
       rw [hrqe.out] at hrgq hriq hbq hct
       obtain ⟨G, hG⟩ : ∃ G, Hid (Go.Dr.contraB q x = G) := ⟨_, rfl⟩
       rw [hG.out] at hct hgo5
       have hgo6 := Lib.hid hgo5
       have hj1 : (k : Int) - 1 = (j : Int) := by have := hj.out; omega
       have hjw : Hid (IntKind.i64.wrap (j : Int) = (j : Int)) := by show _ = _; rw [IntKind.wrap_i64]; omega
       have hkp : decide ((0 : Int) < (k : Int)) = true := by simp; omega
       have hkp2 : decide (0 < k) = true := by simp; omega
       have j0 : (0 : Int) ≤ (j : Int) := by omega
       have j1 : (j : Int) < (n : Int) := by omega
       clear hgo5 hgo4 hpq hjl hoq
       by_cases hqx : q.no < x.no
       · have hdec : decide (x.no ≤ q.no) = false := by simp; omega
         have hgo7 := hgo6.out
         rw [decide_eq_true hqx, Bool.true_and] at hgo7
         have hgo8 := Lib.hid hgo7
         clear hgo7 hgo6
         refine wp_region_held_drew (S := fun wz => Below w7.heap.size w7 wz) (by kernel_rfl) ((Below.refl _ w7).drew) (fun hHeld => ?_)
         generalize hW1 : w7.drew = W1 at *
         clear hW1
         refine tQ 0 rfl hHeld ?_
         refine tX 1 rfl (fun wz hSw => And.intro (hkp) (hkp2)) hHeld ?_
         refine tQ 2 rfl hHeld ?_
         refine tQ 3 rfl hHeld ?_
         refine tX 4 rfl (fun wz hSw => (hB7.out.below hSw hB7.out.lt).at_ (i := 1) (x := .slice (some ⟨b, off, none⟩) n c) rfl) hHeld ?_
         refine tQ 5 rfl hHeld ?_
         refine tX 6 rfl (fun wz hSw => And.intro (hj1) (hjw.out)) hHeld ?_
         refine tX 7 rfl (fun wz hSw => And.intro (j0) (j1)) hHeld ?_
         refine tQ 8 rfl hHeld ?_
         refine tX 9 rfl (fun wz hSw => hq0.out wz hSw) hHeld ?_
         refine tQ 10 rfl hHeld ?_
         refine tG 11 (v := ?_) rfl (Or.inl ⟨by rfl, ?_⟩) hHeld ?_
         rotate_left
         · intro wz hSw
           have q3 : wz.cell? ⟨xb, 0, none⟩ = some (.int .i64 x.no) := by rw [hSw.cell (p := ⟨xb, 0, none⟩) hx7.out.lt]; exact hn7
           go_simp
           all_goals (with_reducible rfl)
         try simp only [Act.put, sA, s0, s1]
         refine tX 12 rfl (fun wz hSw => hdec) hHeld ?_
         refine tQ 13 rfl hHeld ?_
         refine tQ 14 rfl hHeld ?_
         refine tX 15 rfl (fun wz hSw => (hB7.out.below hSw hB7.out.lt).at_ (i := 1) (x := .slice (some ⟨b, off, none⟩) n c) rfl) hHeld ?_
         refine tQ 16 rfl hHeld ?_
         refine tX 17 rfl (fun wz hSw => And.intro (hj1) (hjw.out)) hHeld ?_
         refine tX 18 rfl (fun wz hSw => And.intro (j0) (j1)) hHeld ?_
         refine tY 19 rfl b (off + j * 67) (rq) (fun wz h => hrgq.out wz h) Tryz.underlying62 hriq.out hHeld ?_
         refine tG 20 rfl (hold_build (by rfl) _ _ rfl #[(0, .agg rq.toArray)] (by simp only [List.map_toArray, List.map_cons, List.map_nil]; rfl) (fun W => hbq.out W)) hHeld ?_
         refine tY 21 rfl xb 0 (rr) (fun wz h => (hx7.out.below h hx7.out.lt).range) Tryz.underlying62 hri.out hHeld ?_
         refine tG 22 rfl (hold_build (by rfl) _ _ rfl #[(0, .agg rr.toArray)] (by simp only [List.map_toArray, List.map_cons, List.map_nil]; rfl) (fun W => hbld'.out W)) hHeld ?_
         refine tO 23 rfl (fun K hK => ?_)
         go_simp
         go_at_call 85
         refine (hct.out _ (hT0.out.below (hb7.out.trans (hHeld.mono hb7.out.size)))).mono ?_
         rintro e W2 ⟨rfl, hst⟩
         refine hK.out _ _ (hHeld.trans (hst.mono hHeld.size)) (fun hHeld2 => ?_)
         clear hHeld hst
         have hHeld := hHeld2
         clear hHeld2
         clear hK K
         try simp only [Act.put, sA, s0, s1]
         refine tQ 24 rfl hHeld ?_
         refine tQ 25 rfl hHeld ?_
         refine wpAnyH_done (by kernel_rfl) ?_ _
         have hb8 := Lib.hid (hb7.out.trans (hHeld.mono hb7.out.size))
         clear hHeld
         cases G with
         | true =>
          have hend := Lib.hid (hf2.out _ hb8.out (by rw [← hgo8.out]; rfl))
          go_wp2_with fail
          exact hend.out
         | false =>
          have hgo9 : Hid (Go.Dr.wchkGo 4 V.pub (prevQ V.rs (k + 1)) (V.rs.drop (k + 1)) = Go.Dr.wchk 4 V) := by have := hgo8.out; rwa [Bool.not_false, Bool.true_and] at this
          go_wp2_with fail
          go_roundw
          case rel => exact ⟨k + 1, by omega, by go_num, hgo9, hb8⟩
          case measure => simp [intOf]; omega
       · have hdec : decide (x.no ≤ q.no) = true := by simp; omega
         have hf : Go.Dr.wchk 4 V = false := by rw [← hgo6.out, decide_eq_false hqx, Bool.false_and, Bool.false_and]
         refine wp_region_held_drew (S := fun wz => Below w7.heap.size w7 wz) (by kernel_rfl) ((Below.refl _ w7).drew) (fun hHeld => ?_)
         generalize hW1 : w7.drew = W1 at *
         clear hW1
         refine tQ 0 rfl hHeld ?_
         refine tX 1 rfl (fun wz hSw => And.intro (hkp) (hkp2)) hHeld ?_
         refine tQ 2 rfl hHeld ?_
         refine tQ 3 rfl hHeld ?_
         refine tX 4 rfl (fun wz hSw => (hB7.out.below hSw hB7.out.lt).at_ (i := 1) (x := .slice (some ⟨b, off, none⟩) n c) rfl) hHeld ?_
         refine tQ 5 rfl hHeld ?_
         refine tX 6 rfl (fun wz hSw => And.intro (hj1) (hjw.out)) hHeld ?_
         refine tX 7 rfl (fun wz hSw => And.intro (j0) (j1)) hHeld ?_
         refine tQ 8 rfl hHeld ?_
         refine tX 9 rfl (fun wz hSw => hq0.out wz hSw) hHeld ?_
         refine tQ 10 rfl hHeld ?_
         refine tG 11 (v := ?_) rfl (Or.inl ⟨by rfl, ?_⟩) hHeld ?_
         rotate_left
         · intro wz hSw
           have q3 : wz.cell? ⟨xb, 0, none⟩ = some (.int .i64 x.no) := by rw [hSw.cell (p := ⟨xb, 0, none⟩) hx7.out.lt]; exact hn7
           go_simp
           all_goals (with_reducible rfl)
         try simp only [Act.put, sA, s0, s1]
         refine tX 12 rfl (fun wz hSw => hdec) hHeld ?_
         refine tQ 13 rfl hHeld ?_
         refine tS 14 rfl hHeld ?_
         refine tS 15 rfl hHeld ?_
         refine tS 16 rfl hHeld ?_
         refine tS 17 rfl hHeld ?_
         refine tS 18 rfl hHeld ?_
         refine tS 19 rfl hHeld ?_
         refine tS 20 rfl hHeld ?_
         refine tS 21 rfl hHeld ?_
         refine tS 22 rfl hHeld ?_
         refine Go.rd (rs := [23]) ?_
         refine AllReadyH.cons (o := ⟨some 42, .call { callee := .value (.func 85), args := #[.tmp 39, .tmp 41], argTypes := #[121, 121] }, 4, "gossip.go:43", #[⟨20, .data⟩, ⟨22, .data⟩, ⟨13, .chain⟩, ⟨13, .guard⟩], some (13, false)⟩) rfl (fun K hK => ?_) AllReadyH.nil
         rw [if_neg (Bool.eq_false_iff.1 (by rfl))]
         refine hK.out _ _ hHeld (fun hHeld => ?_)
         clear hK K
         try simp only [Act.put, sA, s0, s1]
         refine tQ 24 rfl hHeld ?_
         refine tQ 25 rfl hHeld ?_
         refine wpAnyH_done (by kernel_rfl) ?_ _
         have hend := Lib.hid (hf2.out _ (hb7.out.trans (hHeld.mono hb7.out.size)) hf)
         clear hHeld hf
         go_wp2_with fail
         exact hend.out
  · obtain rfl : k = n := by omega
    have hend := Lib.hid (hf1.out _ hbr.out (by rw [← hgo.out, List.drop_of_length_le (by omega)]; unfold Go.Dr.wchkGo; rfl))
    clear hgo
    go_wp2_with fail
    exact hend.out
end Go.Proofs.YtlpgjdlkjahdgaaGreatDoor
