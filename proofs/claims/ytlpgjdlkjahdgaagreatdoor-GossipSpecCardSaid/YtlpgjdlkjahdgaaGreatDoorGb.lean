/- gossip.conflict gossip.Accept -/
import Derived.Test.YtlpgjdlkjahdgaaGreatDoorAl
import Derived.Test.YtlpgjdlkjahdgaaGreatDoorGa
import Derived.Deep.RegionLawGrows
namespace Go.Proofs.YtlpgjdlkjahdgaaGreatDoor
open Go.RowKit Go.Mem
open Go.Dr (Lst Rt Dir Wt)

def spC (s : Rt × Rt) : List Value := rC s.1 ++ rC s.2
structure OkS (s : Rt × Rt) : Prop where
 a : OkQ s.1
 b : OkQ s.2
theorem spC_length {s : Rt × Rt} (h : OkS s) : (spC s).length = 134 := by unfold spC; rw [List.length_append, rC_length h.a, rC_length h.b]
theorem spC_one (s : Rt × Rt) : ∀ u ∈ spC s, u.oneCell' = true := by
 intro u hu
 rcases List.mem_append.1 hu with h | h
 · exact rC_one _ u h
 · exact rC_one _ u h
theorem okZS : OkS Go.Dr.zeroS := ⟨okZ, okZ⟩
theorem sizeSp : (Tryz.prog.info? 64).map (·.size) = some 134 := by kernel_rfl
theorem sizeSp' {s : Rt × Rt} (h : OkS s) : (Tryz.prog.info? 64).map (·.size) = some (spC s).length := by rw [spC_length h]; exact sizeSp
set_option maxRecDepth 20000 in
theorem split_build0 (m r s m2 r2 s2 : Int) (f g f2 g2 : Nat → Nat) (W : World) : (Instr.build 64 #[(0, .agg (rC ⟨m, rD f, rD g, r, s⟩).toArray), (1, .agg (rC ⟨m2, rD f2, rD g2, r2, s2⟩).toArray)]).run Tryz.prog W = .ok (.agg (spC (⟨m, rD f, rD g, r, s⟩, ⟨m2, rD f2, rD g2, r2, s2⟩)).toArray) W := by
 unfold rD
 kernel_rfl
theorem split_build {x y : Rt} (hx : OkQ x) (hy : OkQ y) (W : World) : (Instr.build 64 #[(0, .agg (rC x).toArray), (1, .agg (rC y).toArray)]).run Tryz.prog W = .ok (.agg (spC (x, y)).toArray) W := by
 have h := split_build0 x.no x.r x.s y.no y.r y.s (fD x.dig) (fD x.prev) (fD y.dig) (fD y.prev) W
 rwa [rD_fD hx.dig, rD_fD hx.prev, rD_fD hy.dig, rD_fD hy.prev] at h
set_option maxRecDepth 20000 in
theorem split_zero (W : World) : (Instr.build 64 #[]).run Tryz.prog W = .ok (.agg (spC Go.Dr.zeroS).toArray) W := by kernel_rfl
theorem nums_go {l : List Rt} (h : Numd l) : ∀ (k : Nat) (x : Rt), l[k]? = some x → (k : Int) + 1 ≤ x.no
 | 0, x, hx => by have := (h.lo x (List.mem_of_getElem? hx)).1; simpa using this
 | k + 1, x, hx => by
  have hk : k < l.length := by have := (List.getElem?_eq_some_iff.1 hx).1; omega
  have h1 := nums_go h k l[k] (List.getElem?_eq_getElem hk)
  have h2 := Go.Dr.up_lt h.up (Nat.lt_succ_self k) (List.getElem?_eq_getElem hk) hx
  push_cast
  omega
theorem nums_len {l : List Rt} (h : Numd l) : l.length ≤ 65536 := by
 by_cases h0 : l.length = 0
 · omega
 · have hk : l.length - 1 < l.length := by omega
   have h1 := nums_go h _ _ (List.getElem?_eq_getElem hk)
   have h2 := (h.lo _ (List.getElem_mem hk)).2
   omega

def ConfPost (l : List Rt) (r : Rt) (w : World) (e : Ending) (w' : World) : Prop := e = .returned (.tuple #[.agg (spC (Go.Dr.confl l r).1).toArray, .bool (Go.Dr.confl l r).2]) ∧ Below w.heap.size w w'

set_option maxRecDepth 20000 in
set_option maxHeartbeats 8000000 in
theorem confl_any (K : Nat → Prop) (V : Wt) (a : Option Addr) (n c : Nat) (r : Rt) (hr : OkQ r) (hrn : 1 ≤ r.no ∧ r.no ≤ 65536) (w : World) (HT : Tabs w) (H : WM K w V a n c) (hs : Numd V.rs) :
 Calls Tryz.prog 88 #[.agg (wtC V.pub a n c).toArray, .agg (rC r).toArray] w (ConfPost V.rs r w) := by
 have HT' := Lib.hid HT; have hs' := Lib.hid hs; have hr' := Lib.hid hr; have hrn' := Lib.hid hrn
 have hlen := H.len
 have hnn : n ≤ 65536 := by rw [← hlen]; exact nums_len hs
 obtain ⟨tb, htb⟩ : ∃ tb, Hid (w.heap.size = tb) := ⟨_, rfl⟩
 obtain ⟨rb, hrb⟩ : ∃ rb, Hid (tb + 1 = rb) := ⟨_, rfl⟩
 obtain ⟨sb, hsb⟩ : ∃ sb, Hid (rb + 1 = sb) := ⟨_, rfl⟩
 obtain ⟨W0, hW0⟩ : ∃ W, Hid (((w.alloc (.cells (wtC V.pub a n c).toArray 69)).alloc (.cells (rC r).toArray 62)).alloc (.cells (spC Go.Dr.zeroS).toArray 64) = W) := ⟨_, rfl⟩
 have hB0 : Hid (Blk W0 tb 69 (wtC V.pub a n c)) := by rw [← hW0.out, ← htb.out]; exact ((Blk.new w _ (wtC V.pub a n c)).alloc _).alloc _
 have hR0 : Hid (Blk W0 rb 62 (rC r)) := by
  rw [← hW0.out, ← hrb.out, ← htb.out]
  have := (Blk.new (w.alloc (.cells (wtC V.pub a n c).toArray 69)) 62 (rC r)).alloc (.cells (spC Go.Dr.zeroS).toArray 64)
  rwa [World.size_alloc] at this
 have hS0 : Hid (Blk W0 sb 64 (spC Go.Dr.zeroS)) := by
  rw [← hW0.out, ← hsb.out, ← hrb.out, ← htb.out]
  have := Blk.new ((w.alloc (.cells (wtC V.pub a n c).toArray 69)).alloc (.cells (rC r).toArray 62)) 64 (spC Go.Dr.zeroS)
  rwa [World.size_alloc, World.size_alloc] at this
 have hb0 : Hid (Below w.heap.size w W0) := by rw [← hW0.out]; exact (((Below.refl _ w).alloc (Nat.le_refl _) _).alloc (by simp) _).alloc (by simp; omega) _
 have hM0 := Lib.hid (H.below hb0.out)
 have hT0 := Lib.hid (HT'.out.below hb0.out)
 obtain ⟨X, hX⟩ : ∃ X, X = ConfPost V.rs r w := ⟨_, rfl⟩
 have hfin : Hid (∀ s b W, Go.Dr.confl V.rs r = (s, b) → Below sb W0 W → X (.returned (.tuple #[.agg (spC s).toArray, .bool b])) W) := fun s b W h1 h2 => by
  have e1 := hb0.out.size; have e2 := htb.out; have e3 := hrb.out; have e4 := hsb.out
  rw [hX]; exact ⟨by rw [h1], hb0.out.trans (h2.mono (by omega))⟩
 rw [← hX]
 have hKt : Hid (QS (fun b => b < tb) w a n c V.rs) := H.qs.imp (fun b hb _ => by rw [← htb.out]; exact hb)
 clear hX HT hs hr hrn
 have hQ0 : Hid (QS (fun b => b < tb) W0 a n c V.rs) := hKt.out.below hb0.out
 clear hKt H
 have y0 := hB0.out.at_ (i := 1) (x := .slice a n c) rfl
 have y1 := hR0.out.at_ (i := 0) (x := .int .i64 r.no) rfl
 have hfd := Lib.hid (fun W hq => find_any K a n c V.rs r.no hrn'.out W hq (by omega) hs'.out)
 obtain ⟨p, hp⟩ : ∃ p, Hid (Go.Dr.posR r.no V.rs = p) := ⟨_, rfl⟩
 obtain ⟨q, hq⟩ : ∃ q, Hid (Go.Dr.metR r.no V.rs = q) := ⟨_, rfl⟩
 rw [hp.out, hq.out] at hfd
 have hple : p ≤ n := by rw [← hp.out, ← hlen]; exact Go.Dr.posR_le _ _
 have hce : Hid (Go.Dr.confl V.rs r = Go.Dr.conflM ((V.rs.take p).getLast?) (V.rs[p]?) r) := by show _ = _; unfold Go.Dr.confl; rw [hp.out]
 have hme : Hid (q = match V.rs[p]? with | some y => decide (y.no = r.no) | none => false) := by show _ = _; rw [← hq.out, ← hp.out]; rfl
 clear hp hq
 have hbr := Lib.hid (groot_build hr'.out)
 have hri : Hid ((Tryz.prog.info? 62).map (·.size) = some (rC r).length) := by show _ = _; rw [rC_length hr'.out]; exact sizeR
 obtain ⟨rr, hre⟩ : ∃ rr, Hid (rC r = rr) := ⟨_, rfl⟩
 have hW0' := hW0.out
 obtain ⟨zS, hzS⟩ : ∃ zS, Hid (spC Go.Dr.zeroS = zS) := ⟨_, rfl⟩
 rw [hre.out] at hR0 hW0' hbr hri ⊢
 rw [hzS.out] at hS0
 have hW0q := Lib.hid hW0'
 clear hW0 hW0'
 go_enter Tryz.func88, Tryz.ntmps88
 go_upto_region 1 with fail
 rw [htb.out, hrb.out, hsb.out]
 generalize hWz : World.alloc _ _ = Wz
 obtain rfl : W0 = Wz := by rw [← hWz]; exact hW0q.out.symm
 clear hWz hW0q
 go_wp2_with fail
 refine (hfd.out _ hM0.out.qs).mono ?_
 rintro e w1 ⟨rfl, hst⟩
 have hlt0 := hS0.out.lt
 have hlr := hR0.out.lt
 have hlb := hB0.out.lt
 have e3 : tb < rb := by have := hrb.out; omega
 have e4 : rb < sb := by have := hsb.out; omega
 have hb1 := Lib.hid (hst.mono (Nat.le_of_lt hlt0))
 have hB1 := Lib.hid (hB0.out.below hst hlb)
 have hR1 := Lib.hid (hR0.out.below hst hlr)
 have hS1 := Lib.hid (hS0.out.below hst hlt0)
 have hQ1 := Lib.hid (hQ0.out.below hst)
 have hT1 := Lib.hid (hT0.out.below hst)
 have htbs : Hid (W0.heap.size ≤ w1.heap.size) := hst.size
 clear hst y0 y1 hfd hB0 hR0 hS0 hM0 hT0 hQ0
 have hTl : sb ≤ w1.heap.size := by have := htbs.out; omega
 have hTw : Hid (∀ W, Below sb w1 W → Tabs W) := fun W h => HT'.out.below (hb0.out.trans ((hb1.out.trans h).mono (by have := hb0.out.size; have := htb.out; omega)))
 clear hT1
 have p0 : (0 : Int) ≤ (p : Int) := by omega
 cases q with
 | true =>
  have hpn : p < V.rs.length := by
   have h := hme.out
   cases e : V.rs[p]? with
   | none => rw [e] at h; cases h
   | some y => exact (List.getElem?_eq_some_iff.1 e).1
  obtain ⟨y, ye⟩ : ∃ y, V.rs[p]? = some y := ⟨_, List.getElem?_eq_getElem hpn⟩
  have hyn : y.no = r.no := by have h := hme.out; rw [ye] at h; simpa using h.symm
  have p1 : (p : Int) < (n : Int) := by omega
  have hcv : Go.Dr.confl V.rs r = ((y, r), Go.Dr.contraB y r) := by rw [hce.out, ye]; unfold Go.Dr.conflM; simp only; rw [if_pos hyn]
  obtain ⟨bY, offY, eaY, _, hKY, hoY, _⟩ := hQ1.out.cells ye
  have hmY : Hid (∀ W, Below sb w1 W → W.rangeAt bY (offY + p * 67) (rC y)) := fun W h => by
   obtain ⟨b', o', e, _, _, _, hg⟩ := (hQ1.out.keep (w' := W) ⟨Nat.le_trans (Nat.le_refl _) h.size, fun bb _ hk => h.block bb (by omega)⟩).cells ye
   rw [eaY] at e
   cases e
   exact hg
  have hiY : Hid ((Tryz.prog.info? 62).map (·.size) = some (rC y).length) := by show _ = _; rw [rC_length hoY]; exact sizeR
  have hblY := Lib.hid (groot_build hoY)
  have hspY := Lib.hid (split_build hoY hr'.out)
  have hslY : Hid ((spC (y, r)).length = zS.length) := by show _ = _; rw [← hzS.out, spC_length ⟨hoY, hr'.out⟩, spC_length okZS]
  have hsiY : Hid ((Tryz.prog.info? 64).map (·.size) = some (spC (y, r)).length) := sizeSp' ⟨hoY, hr'.out⟩
  have hsoY := Lib.hid (spC_one (y, r))
  have hct := Lib.hid (fun W hT => contra_any y r hoY hr'.out hrn'.out.1 W hT)
  obtain ⟨G, hG⟩ : ∃ G, Hid (Go.Dr.contraB y r = G) := ⟨_, rfl⟩
  have hf2 := Lib.hid (fun W hW => hfin.out _ _ W hcv hW)
  have hpre : Hid (∀ (j : Nat) (u : Value), (rC y)[j]? = some u → (spC (y, r))[j]? = some u) := fun j u hj => by
   unfold spC
   rw [List.getElem?_append_left (List.getElem?_eq_some_iff.1 hj).1]
   exact hj
  obtain ⟨ry, hry⟩ : ∃ ry, Hid (rC y = ry) := ⟨_, rfl⟩
  obtain ⟨sp, hsp⟩ : ∃ sp, Hid (spC (y, r) = sp) := ⟨_, rfl⟩
  rw [hG.out] at hct hf2
  rw [hry.out] at hmY hiY hblY hspY hct hpre
  rw [hre.out] at hspY hct
  rw [hsp.out] at hspY hslY hsiY hsoY hf2 hpre
  subst eaY
  clear hcv hyn ye hme hce hfin hpn hry hsp
  go_upto_region 3 with fail
  refine wp_region_held_drew (S := fun wz => Below sb w1 wz) (by kernel_rfl) ((Below.refl _ w1).drew) (fun hHeld => ?_)
  have hSb : Blk w1.drew sb 64 zS := hS1.out
  generalize hW1 : w1.drew = W1 at *
  clear hW1
  refine tQ 0 rfl hHeld ?_
  refine tX 1 rfl (fun wz hSw => (hB1.out.below hSw (by omega)).at_ (i := 1) (x := .slice (some ⟨bY, offY, none⟩) n c) rfl) hHeld ?_
  refine tQ 2 rfl hHeld ?_
  refine tX 3 rfl (fun wz hSw => And.intro (p0) (p1)) hHeld ?_
  refine tY 4 rfl bY (offY + p * 67) (ry) (fun wz h => hmY.out wz h) Tryz.underlying62 hiY.out hHeld ?_
  refine tY 5 rfl rb 0 (rr) (fun wz h => (hR1.out.below h (by omega)).range) Tryz.underlying62 hri.out hHeld ?_
  refine tG 6 rfl (hold_build (by rfl) _ _ rfl #[(0, .agg ry.toArray), (1, .agg rr.toArray)] (by simp only [List.map_toArray, List.map_cons, List.map_nil]; rfl) (fun W => hspY.out W)) hHeld ?_
  refine tO 7 rfl (fun K hK => ?_)
  obtain ⟨W3, hQ⟩ := put_row (ty := 64) hSb (x := sp) hslY.out hsiY.out hsoY.out
  refine wp_store_mid 64 _ _ rfl sb 0 (sp).toArray (by rfl) (by rfl) hQ.there hQ.info (by simpa using hQ.one) ?_
  generalize hWq : World.setCells _ _ _ _ = Wa
  obtain rfl : W3 = Wa := by rw [← hWq]; exact hQ.eq
  clear hWq
  have hszz := hHeld.size
  refine hK.out _ _ (below_grown hHeld hQ.grown (by omega) (Nat.le_refl _)) (fun hHeld2 => ?_)
  clear hHeld
  have hHeld := hHeld2
  have hSn := hQ.blk
  clear hHeld2 hQ
  clear hK K
  try simp only [Act.put]
  refine wpAnyH_done (by kernel_rfl) ?_ _
  have hHeld3 := hHeld
  go_upto_region 4 with fail
  refine wp_region_held_drew (S := fun wz => Below sb w1 wz ∧ Blk wz sb 64 sp) (by kernel_rfl) (⟨hHeld.drew, hSn⟩) (fun hHeld => ?_)
  generalize hW4 : W3.drew = W4 at *
  clear hW4
  refine tY 0 rfl sb 0 (sp) (fun wz h => h.2.range) Tryz.underlying64 hsiY.out hHeld ?_
  refine tQ 1 rfl hHeld ?_
  refine tY 2 rfl sb 0 (ry) (fun wz h => fun j u hj => by rw [Nat.zero_add]; exact h.2.at_ (hpre.out j u hj)) Tryz.underlying62 hiY.out hHeld ?_
  refine tG 3 rfl (hold_build (by rfl) _ _ rfl #[(0, .agg ry.toArray)] (by simp only [List.map_toArray, List.map_cons, List.map_nil]; rfl) (fun W => hblY.out W)) hHeld ?_
  refine tY 4 rfl rb 0 (rr) (fun wz h => (hR1.out.below h.1 (by omega)).range) Tryz.underlying62 hri.out hHeld ?_
  refine tG 5 rfl (hold_build (by rfl) _ _ rfl #[(0, .agg rr.toArray)] (by simp only [List.map_toArray, List.map_cons, List.map_nil]; rfl) (fun W => hbr.out W)) hHeld ?_
  refine tO 6 rfl (fun K hK => ?_)
  go_simp
  go_at_call 85
  refine (hct.out _ (hTw.out _ hHeld.1)).mono ?_
  rintro e W2 ⟨rfl, hst⟩
  have hsz := hHeld.1.size
  refine hK.out _ _ ⟨hHeld.1.trans (hst.mono (by omega)), hHeld.2.below hst hHeld.2.lt⟩ (fun hHeld2 => ?_)
  clear hHeld hst hsz
  have hHeld := hHeld2
  clear hHeld2
  clear hK K
  try simp only [Act.put, sA, s0, s1]
  refine tO 7 rfl (fun K hK => ?_)
  obtain ⟨W5, hQ⟩ := put_row (ty := 64) hHeld.2 (x := sp) rfl hsiY.out hsoY.out
  refine wp_store_mid 64 _ _ rfl sb 0 sp.toArray (by rfl) (by rfl) hQ.there hQ.info (by simpa using hQ.one) ?_
  generalize hWq : World.setCells _ _ _ _ = Wa
  obtain rfl : W5 = Wa := by rw [← hWq]; exact hQ.eq
  clear hWq
  have hszz := hHeld.1.size
  refine hK.out _ _ ⟨below_grown hHeld.1 hQ.grown (by omega) (Nat.le_refl _), hQ.blk⟩ (fun hHeld2 => ?_)
  clear hHeld
  have hHeld := hHeld2
  clear hHeld2 hQ
  clear hK K
  try simp only [Act.put]
  refine tQ 8 rfl hHeld ?_
  refine wpAnyH_done (by kernel_rfl) ?_ _
  have hbq := hHeld.1
  have hBq := hHeld.2
  clear hHeld
  go_wp2_with fail
  exact ret_cell_tmp (p := 4) (u := 5) rfl hBq Tryz.underlying64 rfl hsiY.out rfl rfl rfl (hf2.out _ (hb1.out.trans hbq))
 | false =>
  have hcv : Go.Dr.confl V.rs r = Go.Dr.conflP ((V.rs.take p).getLast?) (V.rs[p]?) r := by
   rw [hce.out]
   unfold Go.Dr.conflM
   have h := hme.out
   cases e : V.rs[p]? with
   | none => rfl
   | some y =>
    rw [e] at h
    simp only
    rw [if_neg (by simpa using h.symm)]
  have hcv' := Lib.hid hcv
  clear hcv hme hce
  go_upto_region 5 with fail
  by_cases hp0 : p = 0
  · subst hp0
    have hcv2 : Hid (Go.Dr.confl V.rs r = Go.Dr.conflN (V.rs[0]?) r) := by show _ = _; rw [hcv'.out]; rfl
    clear hcv'
    refine wp_region_held_drew (S := fun wz => Below sb w1 wz) (by kernel_rfl) ((Below.refl _ w1).drew) (fun hHeld => ?_)
    have hSq : Blk w1.drew sb 64 zS := hS1.out
    generalize hW1 : w1.drew = W1 at *
    clear hW1
    refine tQ 0 rfl hHeld ?_
    refine tQ 1 rfl hHeld ?_
    refine tQ 2 rfl hHeld ?_
    refine tS 3 rfl hHeld ?_
    refine tS 4 rfl hHeld ?_
    refine tS 5 rfl hHeld ?_
    refine tS 6 rfl hHeld ?_
    refine tS 7 rfl hHeld ?_
    refine tS 8 rfl hHeld ?_
    refine tS 9 rfl hHeld ?_
    refine tS 10 rfl hHeld ?_
    refine tS 11 rfl hHeld ?_
    refine rd (rs := [12]) ?_
    refine AllReadyH.cons (o := ⟨some 45, .call { callee := .value (.func 85), args := #[.tmp 42, .tmp 44], argTypes := #[121, 121] }, 4, "gossip.go:57", #[⟨9, .data⟩, ⟨11, .data⟩, ⟨2, .chain⟩, ⟨2, .guard⟩], some (2, true)⟩) rfl (fun K hK => ?_) AllReadyH.nil
    rw [if_neg (Bool.eq_false_iff.1 (by rfl))]
    refine hK.out _ _ hHeld (fun hHeld => ?_)
    clear hK K
    try simp only [Act.put, sA, s0, s1]
    refine tQ 13 rfl hHeld ?_
    refine tQ 14 rfl hHeld ?_
    refine wpAnyH_done (by kernel_rfl) ?_ _
    have hb5 := Lib.hid hHeld
    have hS5 : Hid (Blk W1 sb 64 zS) := hSq
    clear hHeld
    generalize W1 = w5 at *
    go_upto_region 7 with fail
    by_cases hpn2 : 0 < n
    · have hpl : 0 < V.rs.length := by omega
      obtain ⟨y, ye⟩ : ∃ y, V.rs[0]? = some y := ⟨_, List.getElem?_eq_getElem hpl⟩
      have hcv3 := hcv2.out
      rw [ye] at hcv3
      unfold Go.Dr.conflN at hcv3
      simp only at hcv3
      obtain ⟨bY, offY, eaY, _, hKY, hoY, _⟩ := hQ1.out.cells ye
      have hmY : Hid (∀ W, Below sb w1 W → W.rangeAt bY (offY + 0 * 67) (rC y)) := fun W h => by
       obtain ⟨b', o', e, _, _, _, hg⟩ := (hQ1.out.keep (w' := W) ⟨Nat.le_trans (Nat.le_refl _) h.size, fun bb _ hk => h.block bb (by omega)⟩).cells ye
       rw [eaY] at e
       cases e
       exact hg
      have hiY : Hid ((Tryz.prog.info? 62).map (·.size) = some (rC y).length) := by show _ = _; rw [rC_length hoY]; exact sizeR
      have hblY := Lib.hid (groot_build hoY)
      have hspY := Lib.hid (split_build hr'.out hoY)
      have hslY : Hid ((spC (r, y)).length = zS.length) := by show _ = _; rw [← hzS.out, spC_length ⟨hr'.out, hoY⟩, spC_length okZS]
      have hsiY : Hid ((Tryz.prog.info? 64).map (·.size) = some (spC (r, y)).length) := sizeSp' ⟨hr'.out, hoY⟩
      have hsoY := Lib.hid (spC_one (r, y))
      have hct7 := Lib.hid (fun W hT => contra_any r y hr'.out hoY (hs'.out.lo y (List.mem_of_getElem? ye)).1 W hT)
      obtain ⟨G7, hG7⟩ : ∃ G, Hid (Go.Dr.contraB r y = G) := ⟨_, rfl⟩
      rw [hG7.out] at hct7 hcv3
      have hcv8 := Lib.hid hcv3
      obtain ⟨ry, hry⟩ : ∃ ry, Hid (rC y = ry) := ⟨_, rfl⟩
      rw [hry.out] at hmY hiY hblY hspY hct7
      rw [hre.out] at hspY hct7
      have hpd : decide ((0 : Int) < (n : Int)) = true := by simp; omega
      have p1 : (0 : Int) < (n : Int) := by omega
      clear hcv3 hcv2 hpl
      subst eaY
      refine wp_region_held_drew (S := fun wz => Below sb w1 wz) (by kernel_rfl) (hb5.out.drew) (fun hHeld => ?_)
      have hSb : Blk w5.drew sb 64 zS := hS5.out
      generalize hW7 : w5.drew = W7 at *
      clear hW7
      refine tQ 0 rfl hHeld ?_
      refine tQ 1 rfl hHeld ?_
      refine tX 2 rfl (fun wz hSw => (hB1.out.below hSw (by omega)).at_ (i := 1) (x := .slice (some ⟨bY, offY, none⟩) n c) rfl) hHeld ?_
      refine tQ 3 rfl hHeld ?_
      refine tX 4 rfl (fun wz hSw => hpd) hHeld ?_
      refine tQ 5 rfl hHeld ?_
      refine tY 6 rfl rb 0 (rr) (fun wz h => (hR1.out.below h (by omega)).range) Tryz.underlying62 hri.out hHeld ?_
      refine tG 7 rfl (hold_build (by rfl) _ _ rfl #[(0, .agg rr.toArray)] (by simp only [List.map_toArray, List.map_cons, List.map_nil]; rfl) (fun W => hbr.out W)) hHeld ?_
      refine tQ 8 rfl hHeld ?_
      refine tX 9 rfl (fun wz hSw => (hB1.out.below hSw (by omega)).at_ (i := 1) (x := .slice (some ⟨bY, offY, none⟩) n c) rfl) hHeld ?_
      refine tQ 10 rfl hHeld ?_
      refine tX 11 rfl (fun wz hSw => And.intro (p0) (p1)) hHeld ?_
      refine tY 12 rfl bY (offY + 0 * 67) (ry) (fun wz h => hmY.out wz h) Tryz.underlying62 hiY.out hHeld ?_
      refine tG 13 rfl (hold_build (by rfl) _ _ rfl #[(0, .agg ry.toArray)] (by simp only [List.map_toArray, List.map_cons, List.map_nil]; rfl) (fun W => hblY.out W)) hHeld ?_
      refine tO 14 rfl (fun K hK => ?_)
      go_simp
      go_at_call 85
      refine (hct7.out _ (hTw.out _ hHeld)).mono ?_
      rintro e W2 ⟨rfl, hst⟩
      have hsz := hHeld.size
      refine hK.out _ _ (hHeld.trans (hst.mono (by omega))) (fun hHeld2 => ?_)
      have hS7 := Lib.hid (hSb.below hst hSb.lt)
      clear hHeld hst hsz
      have hHeld := hHeld2
      clear hHeld2
      clear hK K
      try simp only [Act.put, sA, s0, s1]
      refine tQ 15 rfl hHeld ?_
      refine tQ 16 rfl hHeld ?_
      refine wpAnyH_done (by kernel_rfl) ?_ _
      have hb7 := Lib.hid hHeld
      clear hHeld
      cases G7 with
      | true =>
       have hf2 := Lib.hid (fun W hW => hfin.out (r, y) true W (by rw [hcv8.out]; rfl) hW)
       obtain ⟨sp, hsp⟩ : ∃ sp, Hid (spC (r, y) = sp) := ⟨_, rfl⟩
       rw [hsp.out] at hspY hslY hsiY hsoY hf2
       clear hsp hcv8
       generalize W2 = w7 at *
       go_upto_region 8 with fail
       refine wp_region_held_drew (S := fun wz => Below sb w1 wz) (by kernel_rfl) (hb7.out.drew) (fun hHeld => ?_)
       have hSb8 : Blk w7.drew sb 64 zS := hS7.out
       generalize hW8 : w7.drew = W8 at *
       clear hW8
       refine tY 0 rfl rb 0 (rr) (fun wz h => (hR1.out.below h (by omega)).range) Tryz.underlying62 hri.out hHeld ?_
       refine tQ 1 rfl hHeld ?_
       refine tX 2 rfl (fun wz hSw => (hB1.out.below hSw (by omega)).at_ (i := 1) (x := .slice (some ⟨bY, offY, none⟩) n c) rfl) hHeld ?_
       refine tQ 3 rfl hHeld ?_
       refine tX 4 rfl (fun wz hSw => And.intro (p0) (p1)) hHeld ?_
       refine tY 5 rfl bY (offY + 0 * 67) (ry) (fun wz h => hmY.out wz h) Tryz.underlying62 hiY.out hHeld ?_
       refine tG 6 rfl (hold_build (by rfl) _ _ rfl #[(0, .agg rr.toArray), (1, .agg ry.toArray)] (by simp only [List.map_toArray, List.map_cons, List.map_nil]; rfl) (fun W => hspY.out W)) hHeld ?_
       refine tO 7 rfl (fun K hK => ?_)
       obtain ⟨W3, hQ⟩ := put_row (ty := 64) hSb8 (x := sp) hslY.out hsiY.out hsoY.out
       refine wp_store_mid 64 _ _ rfl sb 0 (sp).toArray (by rfl) (by rfl) hQ.there hQ.info (by simpa using hQ.one) ?_
       generalize hWq : World.setCells _ _ _ _ = Wa
       obtain rfl : W3 = Wa := by rw [← hWq]; exact hQ.eq
       clear hWq
       have hszz := hHeld.size
       refine hK.out _ _ (below_grown hHeld hQ.grown (by omega) (Nat.le_refl _)) (fun hHeld2 => ?_)
       clear hHeld
       have hHeld := hHeld2
       have hSn := hQ.blk
       clear hHeld2 hQ
       clear hK K
       try simp only [Act.put]
       refine tQ 8 rfl hHeld ?_
       refine wpAnyH_done (by kernel_rfl) ?_ _
       go_wp2_with fail
       exact ret_cell_tmp (p := 4) (u := 5) rfl hSn Tryz.underlying64 rfl hsiY.out rfl rfl rfl (hf2.out _ (hb1.out.trans hHeld))
      | false =>
       have hb8 := hb7
       have hS8 := hS7
       have hcv2 := hcv8
       have hf2 := Lib.hid (fun W hW => hfin.out Go.Dr.zeroS false W (by rw [hcv8.out]; rfl) hW)
       obtain ⟨V9, hP9⟩ := put_row (ty := 64) hS8.out (x := zS) rfl (by rw [← hzS.out]; exact sizeSp' okZS) (by rw [← hzS.out]; exact spC_one _)
       have hb9 : Hid (Below sb w1 V9) := by have := hb8.out.size; exact below_grown hb8.out hP9.grown (by omega) (Nat.le_refl _)
       have hP9' := Lib.hid hP9
       have hzr : Hid (∀ W, (Instr.build 64 #[]).run Tryz.prog W = .ok (.agg zS.toArray) W) := fun W => by rw [← hzS.out]; exact split_zero W
       have hsz9 : Hid ((Tryz.prog.info? 64).map (·.size) = some zS.length) := by rw [← hzS.out]; exact sizeSp' okZS
       rw [hzS.out] at hf2
       clear hP9 hcv2 hfin
       go_upto_region 9 with fail
       refine wp_region_list ?_
       refine wpList_build_run (by rfl) 64 _ rfl #[] (by simp) (hzr.out _) ?_
       try simp only [Act.put, sA, s0, s1]
       refine wpList_store_mid (by rfl) 64 (.tmp 4) (.tmp 79) (by rfl) sb 0 zS.toArray (by rfl) (by rfl) hP9'.out.there hP9'.out.info (by simpa using hP9'.out.one) ?_
       generalize hWq : World.setCells _ _ _ _ = Wa
       obtain rfl : V9 = Wa := by rw [← hWq]; exact hP9'.out.eq
       clear hWq
       go_wp2_with fail
       exact ret_cell_tmp (p := 4) (u := 5) rfl hP9'.out.blk Tryz.underlying64 rfl hsz9.out rfl rfl rfl (hf2.out _ (hb1.out.trans hb9.out))
    · have hpd : decide ((0 : Int) < (n : Int)) = false := by simp; omega
      refine wp_region_held_drew (S := fun wz => Below sb w1 wz) (by kernel_rfl) (hb5.out.drew) (fun hHeld => ?_)
      have hSb : Blk w5.drew sb 64 zS := hS5.out
      generalize hW7 : w5.drew = W7 at *
      clear hW7
      refine tQ 0 rfl hHeld ?_
      refine tQ 1 rfl hHeld ?_
      refine tX 2 rfl (fun wz hSw => (hB1.out.below hSw (by omega)).at_ (i := 1) (x := .slice a n c) rfl) hHeld ?_
      refine tQ 3 rfl hHeld ?_
      refine tX 4 rfl (fun wz hSw => hpd) hHeld ?_
      refine tQ 5 rfl hHeld ?_
      refine tS 6 rfl hHeld ?_
      refine tS 7 rfl hHeld ?_
      refine tS 8 rfl hHeld ?_
      refine tS 9 rfl hHeld ?_
      refine tS 10 rfl hHeld ?_
      refine tS 11 rfl hHeld ?_
      refine tS 12 rfl hHeld ?_
      refine tS 13 rfl hHeld ?_
      refine rd (rs := [14]) ?_
      refine AllReadyH.cons (o := ⟨some 70, .call { callee := .value (.func 85), args := #[.tmp 63, .tmp 69], argTypes := #[121, 121] }, 4, "gossip.go:59", #[⟨7, .data⟩, ⟨13, .data⟩, ⟨5, .chain⟩, ⟨5, .guard⟩], some (5, true)⟩) rfl (fun K hK => ?_) AllReadyH.nil
      rw [if_neg (Bool.eq_false_iff.1 (by rfl))]
      refine hK.out _ _ hHeld (fun hHeld => ?_)
      clear hK K
      try simp only [Act.put, sA, s0, s1]
      refine tQ 15 rfl hHeld ?_
      refine tQ 16 rfl hHeld ?_
      refine wpAnyH_done (by kernel_rfl) ?_ _
      have hb8 := Lib.hid hHeld
      have hS8 := Lib.hid hSb
      clear hHeld
      have hf2 := Lib.hid (fun W hW => hfin.out Go.Dr.zeroS false W (by rw [hcv2.out, List.getElem?_eq_none (by omega)]; rfl) hW)
      obtain ⟨V9, hP9⟩ := put_row (ty := 64) hS8.out (x := zS) rfl (by rw [← hzS.out]; exact sizeSp' okZS) (by rw [← hzS.out]; exact spC_one _)
      have hb9 : Hid (Below sb w1 V9) := by have := hb8.out.size; exact below_grown hb8.out hP9.grown (by omega) (Nat.le_refl _)
      have hP9' := Lib.hid hP9
      have hzr : Hid (∀ W, (Instr.build 64 #[]).run Tryz.prog W = .ok (.agg zS.toArray) W) := fun W => by rw [← hzS.out]; exact split_zero W
      have hsz9 : Hid ((Tryz.prog.info? 64).map (·.size) = some zS.length) := by rw [← hzS.out]; exact sizeSp' okZS
      rw [hzS.out] at hf2
      clear hP9 hcv2 hfin
      go_upto_region 9 with fail
      refine wp_region_list ?_
      refine wpList_build_run (by rfl) 64 _ rfl #[] (by simp) (hzr.out _) ?_
      try simp only [Act.put, sA, s0, s1]
      refine wpList_store_mid (by rfl) 64 (.tmp 4) (.tmp 79) (by rfl) sb 0 zS.toArray (by rfl) (by rfl) hP9'.out.there hP9'.out.info (by simpa using hP9'.out.one) ?_
      generalize hWq : World.setCells _ _ _ _ = Wa
      obtain rfl : V9 = Wa := by rw [← hWq]; exact hP9'.out.eq
      clear hWq
      go_wp2_with fail
      exact ret_cell_tmp (p := 4) (u := 5) rfl hP9'.out.blk Tryz.underlying64 rfl hsz9.out rfl rfl rfl (hf2.out _ (hb1.out.trans hb9.out))
  · obtain ⟨j, hj⟩ : ∃ j, Hid (p = j + 1) := ⟨p - 1, by show _ = _; omega⟩
    have hjl : j < V.rs.length := by have := hj.out; omega
    obtain ⟨x, xe⟩ : ∃ x, V.rs[j]? = some x := ⟨_, List.getElem?_eq_getElem hjl⟩
    have hpv : (V.rs.take p).getLast? = some x := by rw [hj.out, List.take_add_one, xe, Option.toList_some, List.getLast?_concat]
    have hcv3 := hcv'.out
    rw [hpv] at hcv3
    unfold Go.Dr.conflP at hcv3
    simp only at hcv3
    obtain ⟨bQ, offQ, eaQ, _, hKQ, hoQ, _⟩ := hQ1.out.cells xe
    have hmQ : Hid (∀ W, Below sb w1 W → W.rangeAt bQ (offQ + j * 67) (rC x)) := fun W h => by
     obtain ⟨b', o', e, _, _, _, hg⟩ := (hQ1.out.keep (w' := W) ⟨Nat.le_trans (Nat.le_refl _) h.size, fun bb _ hk => h.block bb (by omega)⟩).cells xe
     rw [eaQ] at e
     cases e
     exact hg
    have hiQ : Hid ((Tryz.prog.info? 62).map (·.size) = some (rC x).length) := by show _ = _; rw [rC_length hoQ]; exact sizeR
    have hblQ := Lib.hid (groot_build hoQ)
    have hspQ := Lib.hid (split_build hoQ hr'.out)
    have hslQ : Hid ((spC (x, r)).length = zS.length) := by show _ = _; rw [← hzS.out, spC_length ⟨hoQ, hr'.out⟩, spC_length okZS]
    have hsiQ : Hid ((Tryz.prog.info? 64).map (·.size) = some (spC (x, r)).length) := sizeSp' ⟨hoQ, hr'.out⟩
    have hsoQ := Lib.hid (spC_one (x, r))
    have hct := Lib.hid (fun W hT => contra_any x r hoQ hr'.out hrn'.out.1 W hT)
    obtain ⟨G, hG⟩ : ∃ G, Hid (Go.Dr.contraB x r = G) := ⟨_, rfl⟩
    rw [hG.out] at hct hcv3
    have hcv4 := Lib.hid hcv3
    obtain ⟨rq, hrq⟩ : ∃ rq, Hid (rC x = rq) := ⟨_, rfl⟩
    rw [hrq.out] at hmQ hiQ hblQ hspQ hct
    rw [hre.out] at hspQ hct
    have hj1 : (p : Int) - 1 = (j : Int) := by have := hj.out; omega
    have hjw : Hid (IntKind.i64.wrap (j : Int) = (j : Int)) := by show _ = _; rw [IntKind.wrap_i64]; omega
    have hkp : decide ((0 : Int) < (p : Int)) = true := by simp; omega
    have hkp2 : decide (0 < p) = true := by simp; omega
    have j0 : (0 : Int) ≤ (j : Int) := by omega
    have j1 : (j : Int) < (n : Int) := by omega
    clear hcv3 hcv' hpv hjl hp0
    subst eaQ
    refine wp_region_held_drew (S := fun wz => Below sb w1 wz) (by kernel_rfl) ((Below.refl _ w1).drew) (fun hHeld => ?_)
    have hSq : Blk w1.drew sb 64 zS := hS1.out
    generalize hW1 : w1.drew = W1 at *
    clear hW1
    refine tQ 0 rfl hHeld ?_
    refine tX 1 rfl (fun wz hSw => And.intro (hkp) (hkp2)) hHeld ?_
    refine tQ 2 rfl hHeld ?_
    refine tQ 3 rfl hHeld ?_
    refine tX 4 rfl (fun wz hSw => (hB1.out.below hSw (by omega)).at_ (i := 1) (x := .slice (some ⟨bQ, offQ, none⟩) n c) rfl) hHeld ?_
    refine tQ 5 rfl hHeld ?_
    refine tX 6 rfl (fun wz hSw => And.intro (hj1) (hjw.out)) hHeld ?_
    refine tX 7 rfl (fun wz hSw => And.intro (j0) (j1)) hHeld ?_
    refine tY 8 rfl bQ (offQ + j * 67) (rq) (fun wz h => hmQ.out wz h) Tryz.underlying62 hiQ.out hHeld ?_
    refine tG 9 rfl (hold_build (by rfl) _ _ rfl #[(0, .agg rq.toArray)] (by simp only [List.map_toArray, List.map_cons, List.map_nil]; rfl) (fun W => hblQ.out W)) hHeld ?_
    refine tY 10 rfl rb 0 (rr) (fun wz h => (hR1.out.below h (by omega)).range) Tryz.underlying62 hri.out hHeld ?_
    refine tG 11 rfl (hold_build (by rfl) _ _ rfl #[(0, .agg rr.toArray)] (by simp only [List.map_toArray, List.map_cons, List.map_nil]; rfl) (fun W => hbr.out W)) hHeld ?_
    refine tO 12 rfl (fun K hK => ?_)
    go_simp
    go_at_call 85
    refine (hct.out _ (hTw.out _ hHeld)).mono ?_
    rintro e W2 ⟨rfl, hst⟩
    have hsz := hHeld.size
    refine hK.out _ _ (hHeld.trans (hst.mono (by omega))) (fun hHeld2 => ?_)
    have hS2q := hSq.below hst hSq.lt
    clear hHeld hst hsz
    have hHeld := hHeld2
    clear hHeld2
    clear hK K
    try simp only [Act.put, sA, s0, s1]
    refine tQ 13 rfl hHeld ?_
    refine tQ 14 rfl hHeld ?_
    refine wpAnyH_done (by kernel_rfl) ?_ _
    have hb5 := Lib.hid hHeld
    have hS5 : Hid (Blk W2 sb 64 zS) := hS2q
    clear hHeld
    cases G with
    | true =>
     have hf2 := Lib.hid (fun W hW => hfin.out (x, r) true W (by rw [hcv4.out]; rfl) hW)
     obtain ⟨sp, hsp⟩ : ∃ sp, Hid (spC (x, r) = sp) := ⟨_, rfl⟩
     rw [hsp.out] at hspQ hslQ hsiQ hsoQ hf2
     clear hsp hcv4
     generalize W2 = w5 at *
     go_upto_region 6 with fail
     refine wp_region_held_drew (S := fun wz => Below sb w1 wz) (by kernel_rfl) (hb5.out.drew) (fun hHeld => ?_)
     have hSb : Blk w5.drew sb 64 zS := hS5.out
     generalize hW1 : w5.drew = W1 at *
     clear hW1
     refine tQ 0 rfl hHeld ?_
     refine tX 1 rfl (fun wz hSw => (hB1.out.below hSw (by omega)).at_ (i := 1) (x := .slice (some ⟨bQ, offQ, none⟩) n c) rfl) hHeld ?_
     refine tQ 2 rfl hHeld ?_
     refine tX 3 rfl (fun wz hSw => And.intro (hj1) (hjw.out)) hHeld ?_
     refine tX 4 rfl (fun wz hSw => And.intro (j0) (j1)) hHeld ?_
     refine tY 5 rfl bQ (offQ + j * 67) (rq) (fun wz h => hmQ.out wz h) Tryz.underlying62 hiQ.out hHeld ?_
     refine tY 6 rfl rb 0 (rr) (fun wz h => (hR1.out.below h (by omega)).range) Tryz.underlying62 hri.out hHeld ?_
     refine tG 7 rfl (hold_build (by rfl) _ _ rfl #[(0, .agg rq.toArray), (1, .agg rr.toArray)] (by simp only [List.map_toArray, List.map_cons, List.map_nil]; rfl) (fun W => hspQ.out W)) hHeld ?_
     refine tO 8 rfl (fun K hK => ?_)
     obtain ⟨W3, hQ⟩ := put_row (ty := 64) hSb (x := sp) hslQ.out hsiQ.out hsoQ.out
     refine wp_store_mid 64 _ _ rfl sb 0 (sp).toArray (by rfl) (by rfl) hQ.there hQ.info (by simpa using hQ.one) ?_
     generalize hWq : World.setCells _ _ _ _ = Wa
     obtain rfl : W3 = Wa := by rw [← hWq]; exact hQ.eq
     clear hWq
     have hszz := hHeld.size
     refine hK.out _ _ (below_grown hHeld hQ.grown (by omega) (Nat.le_refl _)) (fun hHeld2 => ?_)
     clear hHeld
     have hHeld := hHeld2
     have hSn := hQ.blk
     clear hHeld2 hQ
     clear hK K
     try simp only [Act.put]
     refine tQ 9 rfl hHeld ?_
     refine wpAnyH_done (by kernel_rfl) ?_ _
     go_wp2_with fail
     exact ret_cell_tmp (p := 4) (u := 5) rfl hSn Tryz.underlying64 rfl hsiQ.out rfl rfl rfl (hf2.out _ (hb1.out.trans hHeld))
    | false =>
     have hcv2 : Hid (Go.Dr.confl V.rs r = Go.Dr.conflN (V.rs[p]?) r) := by show _ = _; rw [hcv4.out]; rfl
     clear hcv4 hspQ hslQ hsiQ hsoQ hct
     generalize W2 = w5 at *
     go_upto_region 7 with fail
     by_cases hpn2 : p < n
     · have hpl : p < V.rs.length := by omega
       obtain ⟨y, ye⟩ : ∃ y, V.rs[p]? = some y := ⟨_, List.getElem?_eq_getElem hpl⟩
       have hcv3 := hcv2.out
       rw [ye] at hcv3
       unfold Go.Dr.conflN at hcv3
       simp only at hcv3
       obtain ⟨bY, offY, eaY, _, hKY, hoY, _⟩ := hQ1.out.cells ye
       have hmY : Hid (∀ W, Below sb w1 W → W.rangeAt bY (offY + p * 67) (rC y)) := fun W h => by
        obtain ⟨b', o', e, _, _, _, hg⟩ := (hQ1.out.keep (w' := W) ⟨Nat.le_trans (Nat.le_refl _) h.size, fun bb _ hk => h.block bb (by omega)⟩).cells ye
        rw [eaY] at e
        cases e
        exact hg
       have hiY : Hid ((Tryz.prog.info? 62).map (·.size) = some (rC y).length) := by show _ = _; rw [rC_length hoY]; exact sizeR
       have hblY := Lib.hid (groot_build hoY)
       have hspY := Lib.hid (split_build hr'.out hoY)
       have hslY : Hid ((spC (r, y)).length = zS.length) := by show _ = _; rw [← hzS.out, spC_length ⟨hr'.out, hoY⟩, spC_length okZS]
       have hsiY : Hid ((Tryz.prog.info? 64).map (·.size) = some (spC (r, y)).length) := sizeSp' ⟨hr'.out, hoY⟩
       have hsoY := Lib.hid (spC_one (r, y))
       have hct7 := Lib.hid (fun W hT => contra_any r y hr'.out hoY (hs'.out.lo y (List.mem_of_getElem? ye)).1 W hT)
       obtain ⟨G7, hG7⟩ : ∃ G, Hid (Go.Dr.contraB r y = G) := ⟨_, rfl⟩
       rw [hG7.out] at hct7 hcv3
       have hcv8 := Lib.hid hcv3
       obtain ⟨ry, hry⟩ : ∃ ry, Hid (rC y = ry) := ⟨_, rfl⟩
       rw [hry.out] at hmY hiY hblY hspY hct7
       rw [hre.out] at hspY hct7
       have hpd : decide ((p : Int) < (n : Int)) = true := by simp; omega
       have p1 : (p : Int) < (n : Int) := by omega
       clear hcv3 hcv2 hpl
       simp only [Option.some.injEq, Addr.mk.injEq, and_true] at eaY
       obtain ⟨eb1, eb2⟩ := eaY
       subst eb1 eb2
       refine wp_region_held_drew (S := fun wz => Below sb w1 wz) (by kernel_rfl) (hb5.out.drew) (fun hHeld => ?_)
       have hSb : Blk w5.drew sb 64 zS := hS5.out
       generalize hW7 : w5.drew = W7 at *
       clear hW7
       refine tQ 0 rfl hHeld ?_
       refine tQ 1 rfl hHeld ?_
       refine tX 2 rfl (fun wz hSw => (hB1.out.below hSw (by omega)).at_ (i := 1) (x := .slice (some ⟨bQ, offQ, none⟩) n c) rfl) hHeld ?_
       refine tQ 3 rfl hHeld ?_
       refine tX 4 rfl (fun wz hSw => hpd) hHeld ?_
       refine tQ 5 rfl hHeld ?_
       refine tY 6 rfl rb 0 (rr) (fun wz h => (hR1.out.below h (by omega)).range) Tryz.underlying62 hri.out hHeld ?_
       refine tG 7 rfl (hold_build (by rfl) _ _ rfl #[(0, .agg rr.toArray)] (by simp only [List.map_toArray, List.map_cons, List.map_nil]; rfl) (fun W => hbr.out W)) hHeld ?_
       refine tQ 8 rfl hHeld ?_
       refine tX 9 rfl (fun wz hSw => (hB1.out.below hSw (by omega)).at_ (i := 1) (x := .slice (some ⟨bQ, offQ, none⟩) n c) rfl) hHeld ?_
       refine tQ 10 rfl hHeld ?_
       refine tX 11 rfl (fun wz hSw => And.intro (p0) (p1)) hHeld ?_
       refine tY 12 rfl bQ (offQ + p * 67) (ry) (fun wz h => hmY.out wz h) Tryz.underlying62 hiY.out hHeld ?_
       refine tG 13 rfl (hold_build (by rfl) _ _ rfl #[(0, .agg ry.toArray)] (by simp only [List.map_toArray, List.map_cons, List.map_nil]; rfl) (fun W => hblY.out W)) hHeld ?_
       refine tO 14 rfl (fun K hK => ?_)
       go_simp
       go_at_call 85
       refine (hct7.out _ (hTw.out _ hHeld)).mono ?_
       rintro e W2 ⟨rfl, hst⟩
       have hsz := hHeld.size
       refine hK.out _ _ (hHeld.trans (hst.mono (by omega))) (fun hHeld2 => ?_)
       have hS7 := Lib.hid (hSb.below hst hSb.lt)
       clear hHeld hst hsz
       have hHeld := hHeld2
       clear hHeld2
       clear hK K
       try simp only [Act.put, sA, s0, s1]
       refine tQ 15 rfl hHeld ?_
       refine tQ 16 rfl hHeld ?_
       refine wpAnyH_done (by kernel_rfl) ?_ _
       have hb7 := Lib.hid hHeld
       clear hHeld
       cases G7 with
       | true =>
        have hf2 := Lib.hid (fun W hW => hfin.out (r, y) true W (by rw [hcv8.out]; rfl) hW)
        obtain ⟨sp, hsp⟩ : ∃ sp, Hid (spC (r, y) = sp) := ⟨_, rfl⟩
        rw [hsp.out] at hspY hslY hsiY hsoY hf2
        clear hsp hcv8
        generalize W2 = w7 at *
        go_upto_region 8 with fail
        refine wp_region_held_drew (S := fun wz => Below sb w1 wz) (by kernel_rfl) (hb7.out.drew) (fun hHeld => ?_)
        have hSb8 : Blk w7.drew sb 64 zS := hS7.out
        generalize hW8 : w7.drew = W8 at *
        clear hW8
        refine tY 0 rfl rb 0 (rr) (fun wz h => (hR1.out.below h (by omega)).range) Tryz.underlying62 hri.out hHeld ?_
        refine tQ 1 rfl hHeld ?_
        refine tX 2 rfl (fun wz hSw => (hB1.out.below hSw (by omega)).at_ (i := 1) (x := .slice (some ⟨bQ, offQ, none⟩) n c) rfl) hHeld ?_
        refine tQ 3 rfl hHeld ?_
        refine tX 4 rfl (fun wz hSw => And.intro (p0) (p1)) hHeld ?_
        refine tY 5 rfl bQ (offQ + p * 67) (ry) (fun wz h => hmY.out wz h) Tryz.underlying62 hiY.out hHeld ?_
        refine tG 6 rfl (hold_build (by rfl) _ _ rfl #[(0, .agg rr.toArray), (1, .agg ry.toArray)] (by simp only [List.map_toArray, List.map_cons, List.map_nil]; rfl) (fun W => hspY.out W)) hHeld ?_
        refine tO 7 rfl (fun K hK => ?_)
        obtain ⟨W3, hQ⟩ := put_row (ty := 64) hSb8 (x := sp) hslY.out hsiY.out hsoY.out
        refine wp_store_mid 64 _ _ rfl sb 0 (sp).toArray (by rfl) (by rfl) hQ.there hQ.info (by simpa using hQ.one) ?_
        generalize hWq : World.setCells _ _ _ _ = Wa
        obtain rfl : W3 = Wa := by rw [← hWq]; exact hQ.eq
        clear hWq
        have hszz := hHeld.size
        refine hK.out _ _ (below_grown hHeld hQ.grown (by omega) (Nat.le_refl _)) (fun hHeld2 => ?_)
        clear hHeld
        have hHeld := hHeld2
        have hSn := hQ.blk
        clear hHeld2 hQ
        clear hK K
        try simp only [Act.put]
        refine tQ 8 rfl hHeld ?_
        refine wpAnyH_done (by kernel_rfl) ?_ _
        go_wp2_with fail
        exact ret_cell_tmp (p := 4) (u := 5) rfl hSn Tryz.underlying64 rfl hsiY.out rfl rfl rfl (hf2.out _ (hb1.out.trans hHeld))
       | false =>
        have hb8 := hb7
        have hS8 := hS7
        have hcv2 := hcv8
        have hf2 := Lib.hid (fun W hW => hfin.out Go.Dr.zeroS false W (by rw [hcv8.out]; rfl) hW)
        obtain ⟨V9, hP9⟩ := put_row (ty := 64) hS8.out (x := zS) rfl (by rw [← hzS.out]; exact sizeSp' okZS) (by rw [← hzS.out]; exact spC_one _)
        have hb9 : Hid (Below sb w1 V9) := by have := hb8.out.size; exact below_grown hb8.out hP9.grown (by omega) (Nat.le_refl _)
        have hP9' := Lib.hid hP9
        have hzr : Hid (∀ W, (Instr.build 64 #[]).run Tryz.prog W = .ok (.agg zS.toArray) W) := fun W => by rw [← hzS.out]; exact split_zero W
        have hsz9 : Hid ((Tryz.prog.info? 64).map (·.size) = some zS.length) := by rw [← hzS.out]; exact sizeSp' okZS
        rw [hzS.out] at hf2
        clear hP9 hcv2 hfin
        go_upto_region 9 with fail
        refine wp_region_list ?_
        refine wpList_build_run (by rfl) 64 _ rfl #[] (by simp) (hzr.out _) ?_
        try simp only [Act.put, sA, s0, s1]
        refine wpList_store_mid (by rfl) 64 (.tmp 4) (.tmp 79) (by rfl) sb 0 zS.toArray (by rfl) (by rfl) hP9'.out.there hP9'.out.info (by simpa using hP9'.out.one) ?_
        generalize hWq : World.setCells _ _ _ _ = Wa
        obtain rfl : V9 = Wa := by rw [← hWq]; exact hP9'.out.eq
        clear hWq
        go_wp2_with fail
        exact ret_cell_tmp (p := 4) (u := 5) rfl hP9'.out.blk Tryz.underlying64 rfl hsz9.out rfl rfl rfl (hf2.out _ (hb1.out.trans hb9.out))
     · have hpd : decide ((p : Int) < (n : Int)) = false := by simp; omega
       refine wp_region_held_drew (S := fun wz => Below sb w1 wz) (by kernel_rfl) (hb5.out.drew) (fun hHeld => ?_)
       have hSb : Blk w5.drew sb 64 zS := hS5.out
       generalize hW7 : w5.drew = W7 at *
       clear hW7
       refine tQ 0 rfl hHeld ?_
       refine tQ 1 rfl hHeld ?_
       refine tX 2 rfl (fun wz hSw => (hB1.out.below hSw (by omega)).at_ (i := 1) (x := .slice (some ⟨bQ, offQ, none⟩) n c) rfl) hHeld ?_
       refine tQ 3 rfl hHeld ?_
       refine tX 4 rfl (fun wz hSw => hpd) hHeld ?_
       refine tQ 5 rfl hHeld ?_
       refine tS 6 rfl hHeld ?_
       refine tS 7 rfl hHeld ?_
       refine tS 8 rfl hHeld ?_
       refine tS 9 rfl hHeld ?_
       refine tS 10 rfl hHeld ?_
       refine tS 11 rfl hHeld ?_
       refine tS 12 rfl hHeld ?_
       refine tS 13 rfl hHeld ?_
       refine rd (rs := [14]) ?_
       refine AllReadyH.cons (o := ⟨some 70, .call { callee := .value (.func 85), args := #[.tmp 63, .tmp 69], argTypes := #[121, 121] }, 4, "gossip.go:59", #[⟨7, .data⟩, ⟨13, .data⟩, ⟨5, .chain⟩, ⟨5, .guard⟩], some (5, true)⟩) rfl (fun K hK => ?_) AllReadyH.nil
       rw [if_neg (Bool.eq_false_iff.1 (by rfl))]
       refine hK.out _ _ hHeld (fun hHeld => ?_)
       clear hK K
       try simp only [Act.put, sA, s0, s1]
       refine tQ 15 rfl hHeld ?_
       refine tQ 16 rfl hHeld ?_
       refine wpAnyH_done (by kernel_rfl) ?_ _
       have hb8 := Lib.hid hHeld
       have hS8 := Lib.hid hSb
       clear hHeld
       have hf2 := Lib.hid (fun W hW => hfin.out Go.Dr.zeroS false W (by rw [hcv2.out, List.getElem?_eq_none (by omega)]; rfl) hW)
       obtain ⟨V9, hP9⟩ := put_row (ty := 64) hS8.out (x := zS) rfl (by rw [← hzS.out]; exact sizeSp' okZS) (by rw [← hzS.out]; exact spC_one _)
       have hb9 : Hid (Below sb w1 V9) := by have := hb8.out.size; exact below_grown hb8.out hP9.grown (by omega) (Nat.le_refl _)
       have hP9' := Lib.hid hP9
       have hzr : Hid (∀ W, (Instr.build 64 #[]).run Tryz.prog W = .ok (.agg zS.toArray) W) := fun W => by rw [← hzS.out]; exact split_zero W
       have hsz9 : Hid ((Tryz.prog.info? 64).map (·.size) = some zS.length) := by rw [← hzS.out]; exact sizeSp' okZS
       rw [hzS.out] at hf2
       clear hP9 hcv2 hfin
       go_upto_region 9 with fail
       refine wp_region_list ?_
       refine wpList_build_run (by rfl) 64 _ rfl #[] (by simp) (hzr.out _) ?_
       try simp only [Act.put, sA, s0, s1]
       refine wpList_store_mid (by rfl) 64 (.tmp 4) (.tmp 79) (by rfl) sb 0 zS.toArray (by rfl) (by rfl) hP9'.out.there hP9'.out.info (by simpa using hP9'.out.one) ?_
       generalize hWq : World.setCells _ _ _ _ = Wa
       obtain rfl : V9 = Wa := by rw [← hWq]; exact hP9'.out.eq
       clear hWq
       go_wp2_with fail
       exact ret_cell_tmp (p := 4) (u := 5) rfl hP9'.out.blk Tryz.underlying64 rfl hsz9.out rfl rfl rfl (hf2.out _ (hb1.out.trans hb9.out))

end Go.Proofs.YtlpgjdlkjahdgaaGreatDoor
namespace Go.Mem
open Go.RowKit
variable {P : Program}
theorem ret_cell_cell_tmp2 {fn : Func} {p q u : Tmp} {ty ty2 : TypeId} (h : fn.results = #[.cell p ty, .cell q ty2, .tmp u]) {W : World} {g g2 : Nat} {t t2 : TypeId} {r r2 : List Value} {d d2 : TypeDesc} {v : Value}
 (hB : Blk W g t r) (hu : P.underlying ty = some d) (hd : d.isRow = true) (hi : (P.info? ty).map (·.size) = some r.length)
 (hB2 : Blk W g2 t2 r2) (hu2 : P.underlying ty2 = some d2) (hd2 : d2.isRow = true) (hi2 : (P.info? ty2).map (·.size) = some r2.length)
 {a : Act} (hp : a.tmps.getD p undef = .pointer (some ⟨g, 0, none⟩)) (hp2 : a.tmps.getD q undef = .pointer (some ⟨g2, 0, none⟩)) (hq : a.tmps.getD u undef = v) (hdf : a.defers = []) {Post : Ending → World → Prop} (hP : Post (.returned (.tuple #[.agg r.toArray, .agg r2.toArray, v])) W) : bodyPost P fn Post .ret a W := by
 refine bodyPost_ret (v := .tuple #[.agg r.toArray, .agg r2.toArray, v]) ?_ hdf hP
 rw [results_cell_cell_tmp h, hp, hp2, hq]
 simp only [asAddr, Sem.run_pure, Result.andThen_ok, load_blk hB hu hd hi, load_blk hB2 hu2 hd2 hi2]
end Go.Mem
namespace Go.Proofs.YtlpgjdlkjahdgaaGreatDoor
open Go.RowKit Go.Mem
open Go.Dr (Lst Rt Dir Wt)

def rR (l : List Rt) : List Value := (l.map rC).flatten
theorem rR_one (l : List Rt) : ∀ u ∈ rR l, u.oneCell' = true := by
 intro u hu
 obtain ⟨r, hr, hu⟩ := List.mem_flatten.1 hu
 obtain ⟨x, _, rfl⟩ := List.mem_map.1 hr
 exact rC_one x u hu
theorem rR_sz {l : List Rt} (h : ∀ x ∈ l, OkQ x) : ∀ r ∈ l.map rC, r.length = 67 := by intro r hr; obtain ⟨x, hx, rfl⟩ := List.mem_map.1 hr; exact rC_length (h x hx)
theorem rR_take {l : List Rt} (h : ∀ x ∈ l, OkQ x) (k : Nat) : rR (l.take k) = (rR l).take (k * 67) := by unfold rR; rw [List.map_take, flat_take k (rR_sz h)]
theorem rR_drop {l : List Rt} (h : ∀ x ∈ l, OkQ x) (k : Nat) : rR (l.drop k) = (rR l).drop (k * 67) := by unfold rR; rw [List.map_drop, flat_drop k (rR_sz h)]
theorem rR_append (a b : List Rt) : rR (a ++ b) = rR a ++ rR b := by simp [rR]
theorem rR_cons (x : Rt) (b : List Rt) : rR (x :: b) = rC x ++ rR b := by simp [rR]
theorem rR_ins {l : List Rt} (h : ∀ x ∈ l, OkQ x) (r : Rt) : (rR l).take (Go.Dr.posR r.no l * 67) ++ rC r ++ (rR l).drop (Go.Dr.posR r.no l * 67) = rR (Go.Dr.insR r l) := by
 unfold Go.Dr.insR
 rw [rR_append, rR_cons, rR_take h, rR_drop h, List.append_assoc]
theorem qs_rows {w : World} {l : List Rt} {rows : List (List Value)} (h : RowsOf 67 (QV w) l rows) : rows = l.map rC := by
 refine List.ext_getElem? fun i => ?_
 rw [List.getElem?_map]
 cases e : l[i]? with
 | none =>
  rw [List.getElem?_eq_none_iff] at e
  rw [List.getElem?_eq_none (by rw [h.len]; exact e)]; rfl
 | some x =>
  obtain ⟨r, hr, hv, _⟩ := h.get e
  rw [hr, hv.2]; rfl
theorem rows_qs (w : World) {l : List Rt} (h : ∀ x ∈ l, OkQ x) : RowsOf 67 (QV w) l (l.map rC) :=
 ⟨by rw [List.length_map], rR_sz h, fun i e r he hr => by
  rw [List.getElem?_map, he] at hr
  cases hr
  exact ⟨h e (List.mem_of_getElem? he), rfl⟩⟩
theorem QS.reads {K : Nat → Prop} {w : World} {a : Option Addr} {n c : Nat} {l : List Rt} (h : QS K w a n c l) : Sl.Reads w a n c 67 (rR l) := by
 obtain ⟨rows, hR, hO⟩ := h.rows
 rw [qs_rows hO] at hR
 exact hR
theorem QS.oks {K : Nat → Prop} {w : World} {a : Option Addr} {n c : Nat} {l : List Rt} (h : QS K w a n c l) : ∀ x ∈ l, OkQ x := fun x hx => by
 obtain ⟨i, hi⟩ := List.mem_iff_getElem?.1 hx
 exact h.okAt hi
theorem own_qs {w : World} {B n : Nat} {v : Value} {l : List Rt} (h : w.ownsRow B 62 67 v n (rR l)) (hl : l.length = n) (ho : ∀ x ∈ l, OkQ x) : ∃ a c, v = .slice a n c ∧ QS (fun b => B ≤ b) w a n c l := by
 obtain ⟨a, c, rfl, hR, hs⟩ := Sl.of_owns h
 exact ⟨a, c, rfl, hl, fun _ ad e => (hs ad e).1, _, hR, rows_qs w ho⟩
theorem insR_oks {l : List Rt} {r : Rt} (h : ∀ x ∈ l, OkQ x) (hr : OkQ r) : ∀ x ∈ Go.Dr.insR r l, OkQ x := fun x hx => by
 rcases Go.Dr.insR_mem.1 hx with rfl | hx
 · exact hr
 · exact h x hx
theorem confl_ok {l : List Rt} {r : Rt} (h : ∀ x ∈ l, OkQ x) (hr : OkQ r) (hc : (Go.Dr.confl l r).2 = true) : OkS (Go.Dr.confl l r).1 := by
 obtain ⟨x, hx, ⟨e, _⟩ | ⟨e, _⟩⟩ := Go.Dr.confl_t hc
 · rw [e]; exact ⟨h x hx, hr⟩
 · rw [e]; exact ⟨hr, h x hx⟩

theorem confl_ok' {l : List Rt} {r : Rt} (h : ∀ x ∈ l, OkQ x) (hr : OkQ r) : OkS (Go.Dr.confl l r).1 := by
 have hn : ∀ (nx : Option Rt), (∀ y, nx = some y → OkQ y) → OkS (Go.Dr.conflN nx r).1 := fun nx hx => by
  unfold Go.Dr.conflN
  cases nx with
  | none => exact okZS
  | some y =>
   simp only
   split
   · exact ⟨hr, hx y rfl⟩
   · exact okZS
 have hpp : ∀ (pv nx : Option Rt), (∀ y, pv = some y → OkQ y) → (∀ y, nx = some y → OkQ y) → OkS (Go.Dr.conflP pv nx r).1 := fun pv nx hp hx => by
  unfold Go.Dr.conflP
  cases pv with
  | none => exact hn nx hx
  | some q =>
   simp only
   split
   · exact ⟨hp q rfl, hr⟩
   · exact hn nx hx
 have hx : ∀ y, l[Go.Dr.posR r.no l]? = some y → OkQ y := fun y e => h y (List.mem_of_getElem? e)
 have hp : ∀ y, (l.take (Go.Dr.posR r.no l)).getLast? = some y → OkQ y := fun y e => h y (List.mem_of_mem_take (List.mem_of_getLast? e))
 unfold Go.Dr.confl Go.Dr.conflM
 cases e : l[Go.Dr.posR r.no l]? with
 | none => exact hpp _ _ hp (fun y hy => by cases hy)
 | some y =>
  simp only
  split
  · exact ⟨hx y e, hr⟩
  · exact hpp _ _ hp (fun z hz => by cases hz; exact hx y e)
def AccPost (K : Nat → Prop) (y : Wt × (Rt × Rt) × Int) (w : World) (e : Ending) (w' : World) : Prop :=
 OkS y.2.1 ∧ ∃ a' n' c', e = .returned (.tuple #[.agg (wtC y.1.pub a' n' c').toArray, .agg (spC y.2.1).toArray, .int .i64 y.2.2]) ∧ WM (fun b => (K b ∧ b < w.heap.size) ∨ w.heap.size ≤ b) w' y.1 a' n' c' ∧ Below w.heap.size w w'

set_option maxRecDepth 20000 in
set_option maxHeartbeats 16000000 in
theorem gaccept_any (K : Nat → Prop) (V : Wt) (a : Option Addr) (n c : Nat) (r : Rt) (hr : OkQ r) (w : World) (HT : Tabs w) (H : WM K w V a n c) :
 Calls Tryz.prog 45 #[.agg (wtC V.pub a n c).toArray, .agg (rC r).toArray] w (AccPost K (Go.Dr.accW 4 V r) w) := by
 have HT' := Lib.hid HT; have hr' := Lib.hid hr
 have hlen := Lib.hid H.len
 have hpub := Lib.hid H.pub
 obtain ⟨tb, htb⟩ : ∃ tb, Hid (w.heap.size = tb) := ⟨_, rfl⟩
 obtain ⟨rb, hrb⟩ : ∃ rb, Hid (tb + 1 = rb) := ⟨_, rfl⟩
 obtain ⟨xb, hxb⟩ : ∃ xb, Hid (rb + 1 = xb) := ⟨_, rfl⟩
 obtain ⟨sb, hsb⟩ : ∃ sb, Hid (xb + 1 = sb) := ⟨_, rfl⟩
 obtain ⟨W0, hW0⟩ : ∃ W, Hid ((((w.alloc (.cells (wtC V.pub a n c).toArray 69)).alloc (.cells (rC r).toArray 62)).alloc (.cells (wtC 0 none 0 0).toArray 69)).alloc (.cells (spC Go.Dr.zeroS).toArray 64) = W) := ⟨_, rfl⟩
 have hB0 : Hid (Blk W0 tb 69 (wtC V.pub a n c)) := by rw [← hW0.out, ← htb.out]; exact (((Blk.new w _ (wtC V.pub a n c)).alloc _).alloc _).alloc _
 have hR0 : Hid (Blk W0 rb 62 (rC r)) := by
  rw [← hW0.out, ← hrb.out, ← htb.out]
  have := ((Blk.new (w.alloc (.cells (wtC V.pub a n c).toArray 69)) 62 (rC r)).alloc (.cells (wtC 0 none 0 0).toArray 69)).alloc (.cells (spC Go.Dr.zeroS).toArray 64)
  rwa [World.size_alloc] at this
 have hX0 : Hid (Blk W0 xb 69 (wtC 0 none 0 0)) := by
  rw [← hW0.out, ← hxb.out, ← hrb.out, ← htb.out]
  have := (Blk.new ((w.alloc (.cells (wtC V.pub a n c).toArray 69)).alloc (.cells (rC r).toArray 62)) 69 (wtC 0 none 0 0)).alloc (.cells (spC Go.Dr.zeroS).toArray 64)
  rwa [World.size_alloc, World.size_alloc] at this
 have hS0 : Hid (Blk W0 sb 64 (spC Go.Dr.zeroS)) := by
  rw [← hW0.out, ← hsb.out, ← hxb.out, ← hrb.out, ← htb.out]
  have := Blk.new (((w.alloc (.cells (wtC V.pub a n c).toArray 69)).alloc (.cells (rC r).toArray 62)).alloc (.cells (wtC 0 none 0 0).toArray 69)) 64 (spC Go.Dr.zeroS)
  rwa [World.size_alloc, World.size_alloc, World.size_alloc] at this
 have hb0 : Hid (Below tb w W0) := by rw [← hW0.out, ← htb.out]; exact ((((Below.refl _ w).alloc (Nat.le_refl _) _).alloc (by simp) _).alloc (by simp; omega) _).alloc (by simp; omega) _
 have hsz0 : Hid (W0.heap.size = sb + 1) := by rw [← hW0.out, ← hsb.out, ← hxb.out, ← hrb.out, ← htb.out]; show _ = _; rw [World.size_alloc, World.size_alloc, World.size_alloc, World.size_alloc]
 have e2 : tb < rb := by have := hrb.out; omega
 have e3 : rb < xb := by have := hxb.out; omega
 have e4 : xb < sb := by have := hsb.out; omega
 have hKt : Hid (QS (fun b => K b ∧ b < tb) w a n c V.rs) := H.qs.imp (fun b hb hk => by rw [← htb.out]; exact ⟨hk, hb⟩)
 have hq0 : Hid (QS (fun b => K b ∧ b < tb) W0 a n c V.rs) := hKt.out.keep (w' := W0) ⟨hb0.out.size, fun b hb hk => hb0.out.block b hk.2⟩
 have hoks := Lib.hid H.qs.oks
 obtain ⟨X, hX⟩ : ∃ X, X = AccPost K (Go.Dr.accW 4 V r) w := ⟨_, rfl⟩
 have hfin : Hid (∀ (y : Wt × (Rt × Rt) × Int) a' n' c' W, Go.Dr.accW 4 V r = y → OkS y.2.1 → I64 y.1.pub → QS (fun b => (K b ∧ b < tb) ∨ sb < b) W a' n' c' y.1.rs → Below tb w W → X (.returned (.tuple #[.agg (wtC y.1.pub a' n' c').toArray, .agg (spC y.2.1).toArray, .int .i64 y.2.2])) W) := fun y a' n' c' W h1 h2 h3 h4 h5 => by
  rw [hX, h1, ← htb.out] at *
  exact ⟨h2, a', n', c', rfl, ⟨h3, h4.imp (fun b _ hb => hb.imp (fun h => by rw [htb.out]; exact h) (fun h => by have := htb.out; omega))⟩, by rw [htb.out]; exact h5⟩
 rw [← hX]
 clear hX H HT hr hKt
 have hri : Hid ((Tryz.prog.info? 62).map (·.size) = some (rC r).length) := by show _ = _; rw [rC_length hr'.out]; exact sizeR
 have hbr := Lib.hid (groot_build hr'.out)
 have hTw : Hid (∀ W, Below tb w W → Tabs W) := fun W h => HT'.out.below (by rw [htb.out]; exact h)
 have hWM : Hid (∀ W, QS (fun b => K b ∧ b < tb) W a n c V.rs → WM (fun b => K b ∧ b < tb) W V a n c) := fun W h => ⟨hpub.out, h⟩
 have hpr := Lib.hid (fun W hT => proper_any r hr'.out V.pub hpub.out W hT)
 have hzo : Hid ((Tryz.prog.info? 64).map (·.size) = some (spC Go.Dr.zeroS).length) := sizeSp' okZS
 have hz1 := Lib.hid (spC_one Go.Dr.zeroS)
 have hzr := Lib.hid split_zero
 obtain ⟨rr, hre⟩ : ∃ rr, Hid (rC r = rr) := ⟨_, rfl⟩
 have hW0' := hW0.out
 obtain ⟨zS, hzS⟩ : ∃ zS, Hid (spC Go.Dr.zeroS = zS) := ⟨_, rfl⟩
 rw [hre.out] at hR0 hW0' hbr hri hpr ⊢
 rw [hzS.out] at hS0 hzo hz1 hzr
 have hW0q := Lib.hid hW0'
 clear hW0 hW0' HT'
 have hck := Lib.hid (fun W hT hM => gchk_any (fun b => K b ∧ b < tb) V a n c W hT hM)
 go_enter Tryz.func45, Tryz.ntmps45
 go_upto_region 1 with fail
 rw [htb.out, hrb.out, hxb.out, hsb.out]
 generalize hWz : World.alloc _ _ = Wz
 obtain rfl : W0 = Wz := by rw [← hWz]; exact hW0q.out.symm
 clear hWz hW0q
 have y0 := hB0.out.at_ (i := 0) (x := .int .i64 V.pub) rfl
 have y1 := hB0.out.at_ (i := 1) (x := .slice a n c) rfl
 go_wp2_with fail
 clear y0 y1
 have hsz0' : sb < W0.heap.size := by have := hsz0.out; omega
 clear hsz0
 refine (hck.out _ (hTw.out _ hb0.out) (hWM.out _ hq0.out)).mono ?_
 rintro e w1 ⟨rfl, hst⟩
 have hsz1 : sb < w1.heap.size := by have := hst.size; omega
 have hB1 := Lib.hid (hB0.out.below hst (by omega))
 have hR1 := Lib.hid (hR0.out.below hst (by omega))
 have hX1 := Lib.hid (hX0.out.below hst (by omega))
 have hS1 := Lib.hid (hS0.out.below hst (by omega))
 have hq1 : Hid (QS (fun b => K b ∧ b < tb) w1 a n c V.rs) := hq0.out.keep (w' := w1) ⟨hst.size, fun b hb hk => hst.block b hb⟩
 have hb1 := Lib.hid (hb0.out.trans (hst.mono (by omega)))
 clear hst hB0 hR0 hX0 hS0 hq0 hb0 hsz0'
 unfold chkW
 cases hk : Go.Dr.wchk 4 V with
 | false =>
  rw [if_neg (by simp)]
  have hyv : Go.Dr.accW 4 V r = (Go.Dr.zeroW, Go.Dr.zeroS, 360) := by unfold Go.Dr.accW; rw [if_neg (by rw [hk]; simp)]
  have hf2 := Lib.hid (fun W hW => hfin.out _ none 0 0 W hyv okZS i64_0 (RS.nil0 _ _ _) hW)
  rw [hzS.out] at hf2
  clear hyv hfin
  go_upto_region 3 with fail
  refine wp_region_held_drew (S := fun wz => Below xb w1 wz ∧ Blk wz xb 69 (wtC 0 none 0 0) ∧ Blk wz sb 64 zS) (by kernel_rfl) (⟨(Below.refl _ w1).drew, hX1.out, hS1.out⟩) (fun hHeld => ?_)
  generalize hWd : w1.drew = Wd at *
  clear hWd
  refine tX 0 rfl (fun wz hSw => And.intro (hSw.2.1.at_ (i := 0) (x := .int .i64 0) rfl) (hSw.2.1.at_ (i := 1) (x := .slice none 0 0) rfl)) hHeld ?_
  refine tY 1 rfl sb 0 (zS) (fun wz h => h.2.2.range) Tryz.underlying64 hzo.out hHeld ?_
  refine tQ 2 rfl hHeld ?_
  refine tO 3 rfl (fun K hK => ?_)
  obtain ⟨V2, hQ⟩ := put_row (ty := 69) hHeld.2.1 (x := wtC 0 none 0 0) rfl sizeWt (wt_one _ _ _ _)
  refine wp_store_mid 69 _ _ rfl xb 0 (wtC 0 none 0 0).toArray (by rfl) (by rfl) hQ.there hQ.info (by simpa using hQ.one) ?_
  generalize hWq : World.setCells _ _ _ _ = Wa
  obtain rfl : V2 = Wa := by rw [← hWq]; exact hQ.eq
  clear hWq
  have hszz := hHeld.1.size
  refine hK.out _ _ ⟨below_grown hHeld.1 hQ.grown (by omega) (Nat.le_refl _), hQ.blk, hHeld.2.2.grown hQ.grown (by intro e; injection e; omega)⟩ (fun hHeld2 => ?_)
  clear hHeld
  have hHeld := hHeld2
  clear hHeld2 hQ
  clear hK K
  try simp only [Act.put]
  refine tO 4 rfl (fun K hK => ?_)
  obtain ⟨V3, hQ⟩ := put_row (ty := 64) hHeld.2.2 (x := zS) rfl hzo.out hz1.out
  refine wp_store_mid 64 _ _ rfl sb 0 zS.toArray (by rfl) (by rfl) hQ.there hQ.info (by simpa using hQ.one) ?_
  generalize hWq : World.setCells _ _ _ _ = Wa
  obtain rfl : V3 = Wa := by rw [← hWq]; exact hQ.eq
  clear hWq
  have hszz := hHeld.1.size
  refine hK.out _ _ ⟨below_grown hHeld.1 hQ.grown (by omega) (by omega), hHeld.2.1.grown hQ.grown (by intro e; injection e; omega), hQ.blk⟩ (fun hHeld2 => ?_)
  clear hHeld
  have hHeld := hHeld2
  clear hHeld2 hQ
  clear hK K
  try simp only [Act.put]
  refine tQ 5 rfl hHeld ?_
  refine wpAnyH_done (by kernel_rfl) ?_ _
  have hend := hf2.out _ (hb1.out.trans (hHeld.1.mono (by omega)))
  have hXz := hHeld.2.1
  have hSz := hHeld.2.2
  clear hHeld
  go_wp2_with fail
  exact ret_cell_cell_tmp2 (p := 4) (q := 5) (u := 6) rfl hXz Tryz.underlying69 rfl sizeWt hSz Tryz.underlying64 rfl hzo.out rfl rfl rfl rfl hend
 | true =>
  rw [if_pos rfl]
  have hwok := Lib.hid (Go.Dr.wchk_iff.1 hk)
  have hrg := Lib.hid hR1.out.range
  have y0 := hB1.out.at_ (i := 0) (x := .int .i64 V.pub) rfl
  obtain ⟨S, hS⟩ : ∃ S, Go.Dr.properB 4 V.pub r = S := ⟨_, rfl⟩
  rw [hS] at hpr
  go_wp2_with (first
   | (refine wpList_load_mid (by rfl) 62 (.tmp 3) (by rfl) rb 0 (by rfl) rr _ hrg.out Tryz.underlying62 (by rfl) hri.out ?_)
    | (refine wpList_build_run (by rfl) 121 _ rfl #[(0, .agg rr.toArray)] (by simp only [List.map_toArray, List.map_cons, List.map_nil]; rfl) (hbr.out _) ?_))
  clear y0 hrg
  refine (hpr.out _ (hTw.out _ hb1.out)).mono ?_
  rintro e w2 ⟨rfl, hst⟩
  have hsz2 : sb < w2.heap.size := by have := hst.size; omega
  have hB2 := Lib.hid (hB1.out.below hst (by omega))
  have hR2 := Lib.hid (hR1.out.below hst (by omega))
  have hX2 := Lib.hid (hX1.out.below hst (by omega))
  have hS2 := Lib.hid (hS1.out.below hst (by omega))
  have hq2 : Hid (QS (fun b => K b ∧ b < tb) w2 a n c V.rs) := hq1.out.keep (w' := w2) ⟨hst.size, fun b hb hk => hst.block b hb⟩
  have hb2 := Lib.hid (hb1.out.trans (hst.mono (by omega)))
  clear hst hB1 hR1 hX1 hS1 hq1 hb1 hsz1
  cases S with
  | false =>
   have hyv : Go.Dr.accW 4 V r = (Go.Dr.zeroW, Go.Dr.zeroS, 360) := by unfold Go.Dr.accW; rw [if_pos hk, if_neg (by rw [hS]; simp)]
   have hf2 := Lib.hid (fun W hW => hfin.out _ none 0 0 W hyv okZS i64_0 (RS.nil0 _ _ _) hW)
   rw [hzS.out] at hf2
   clear hyv hfin
   go_upto_region 5 with fail
   refine wp_region_held_drew (S := fun wz => Below xb w2 wz ∧ Blk wz xb 69 (wtC 0 none 0 0) ∧ Blk wz sb 64 zS) (by kernel_rfl) (⟨(Below.refl _ w2).drew, hX2.out, hS2.out⟩) (fun hHeld => ?_)
   generalize hWd : w2.drew = Wd at *
   clear hWd
   refine tX 0 rfl (fun wz hSw => And.intro (hSw.2.1.at_ (i := 0) (x := .int .i64 0) rfl) (hSw.2.1.at_ (i := 1) (x := .slice none 0 0) rfl)) hHeld ?_
   refine tY 1 rfl sb 0 (zS) (fun wz h => h.2.2.range) Tryz.underlying64 hzo.out hHeld ?_
   refine tO 2 rfl (fun K hK => ?_)
   obtain ⟨V2, hQ⟩ := put_row (ty := 69) hHeld.2.1 (x := wtC 0 none 0 0) rfl sizeWt (wt_one _ _ _ _)
   refine wp_store_mid 69 _ _ rfl xb 0 (wtC 0 none 0 0).toArray (by rfl) (by rfl) hQ.there hQ.info (by simpa using hQ.one) ?_
   generalize hWq : World.setCells _ _ _ _ = Wa
   obtain rfl : V2 = Wa := by rw [← hWq]; exact hQ.eq
   clear hWq
   have hszz := hHeld.1.size
   refine hK.out _ _ ⟨below_grown hHeld.1 hQ.grown (by omega) (Nat.le_refl _), hQ.blk, hHeld.2.2.grown hQ.grown (by intro e; injection e; omega)⟩ (fun hHeld2 => ?_)
   clear hHeld
   have hHeld := hHeld2
   clear hHeld2 hQ
   clear hK K
   try simp only [Act.put]
   refine tO 3 rfl (fun K hK => ?_)
   obtain ⟨V3, hQ⟩ := put_row (ty := 64) hHeld.2.2 (x := zS) rfl hzo.out hz1.out
   refine wp_store_mid 64 _ _ rfl sb 0 zS.toArray (by rfl) (by rfl) hQ.there hQ.info (by simpa using hQ.one) ?_
   generalize hWq : World.setCells _ _ _ _ = Wa
   obtain rfl : V3 = Wa := by rw [← hWq]; exact hQ.eq
   clear hWq
   have hszz := hHeld.1.size
   refine hK.out _ _ ⟨below_grown hHeld.1 hQ.grown (by omega) (by omega), hHeld.2.1.grown hQ.grown (by intro e; injection e; omega), hQ.blk⟩ (fun hHeld2 => ?_)
   clear hHeld
   have hHeld := hHeld2
   clear hHeld2 hQ
   clear hK K
   try simp only [Act.put]
   refine tQ 4 rfl hHeld ?_
   refine wpAnyH_done (by kernel_rfl) ?_ _
   have hend := hf2.out _ (hb2.out.trans (hHeld.1.mono (by omega)))
   have hXz := hHeld.2.1
   have hSz := hHeld.2.2
   clear hHeld
   go_wp2_with fail
   exact ret_cell_cell_tmp2 (p := 4) (q := 5) (u := 6) rfl hXz Tryz.underlying69 rfl sizeWt hSz Tryz.underlying64 rfl hzo.out rfl rfl rfl rfl hend
  | true =>
   have hno := Lib.hid (Go.Dr.proper_no hS)
   have hnum := Lib.hid (WOk.nums hwok.out)
   have hac : Hid (Go.Dr.accW 4 V r = if (Go.Dr.confl V.rs r).2 then (V, (Go.Dr.confl V.rs r).1, 361) else (if Go.Dr.metR r.no V.rs then V else ⟨V.pub, Go.Dr.insR r V.rs⟩, Go.Dr.zeroS, 0)) := by show _ = _; unfold Go.Dr.accW; rw [if_pos hk, if_pos hS]
   have hcf := Lib.hid (fun W hT hM => confl_any (fun b => K b ∧ b < tb) V a n c r hr'.out hno.out W hT hM hnum.out)
   have hcok := Lib.hid (fun h => confl_ok (r := r) hoks.out hr'.out h)
   unfold ConfPost at hcf
   obtain ⟨C, hC⟩ : ∃ C, Hid ((Go.Dr.confl V.rs r).1 = C) := ⟨_, rfl⟩
   obtain ⟨G, hG⟩ : ∃ G, Hid ((Go.Dr.confl V.rs r).2 = G) := ⟨_, rfl⟩
   rw [hC.out, hG.out] at hcf hac hcok
   rw [hre.out] at hcf
   have hCl : Hid ((spC C).length = 134) := by
    show _ = _
    rw [← hC.out]
    exact spC_length (confl_ok' hoks.out hr'.out)
   clear hS hk hC hG hpr
   have hrg := Lib.hid hR2.out.range
   have y0 := hB2.out.at_ (i := 0) (x := .int .i64 V.pub) rfl
   have y1 := hB2.out.at_ (i := 1) (x := .slice a n c) rfl
   go_wp2_with (first
    | (refine wpList_load_mid (by rfl) 62 (.tmp 3) (by rfl) rb 0 (by rfl) rr _ hrg.out Tryz.underlying62 (by rfl) hri.out ?_))
   clear y0 y1 hrg
   refine (hcf.out _ (hTw.out _ hb2.out) (hWM.out _ hq2.out)).mono ?_
   rintro e w3 ⟨rfl, hst⟩
   have hsz3 : sb < w3.heap.size := by have := hst.size; omega
   have hB3 := Lib.hid (hB2.out.below hst (by omega))
   have hR3 := Lib.hid (hR2.out.below hst (by omega))
   have hX3 := Lib.hid (hX2.out.below hst (by omega))
   have hS3 := Lib.hid (hS2.out.below hst (by omega))
   have hq3 : Hid (QS (fun b => K b ∧ b < tb) w3 a n c V.rs) := hq2.out.keep (w' := w3) ⟨hst.size, fun b hb hk => hst.block b hb⟩
   have hb3 := Lib.hid (hb2.out.trans (hst.mono (by omega)))
   clear hst hB2 hR2 hX2 hS2 hq2 hb2 hsz2
   have hCS : Hid ((spC C).length = 134) := hCl.out
   obtain ⟨V4, hP4⟩ : ∃ V, Hid (PutR 64 (w3.alloc (.cells zS.toArray 64)) V w3.heap.size 64 (spC C)) := put_row (Blk.new w3 64 zS) (by rw [hCS.out, ← hzS.out, spC_length okZS]) (by rw [hCS.out]; exact sizeSp) (spC_one C)
   have hst4 := below_grown ((Below.refl _ w3).alloc (Nat.le_refl _) _) hP4.out.grown (by simp) (Nat.le_refl _)
   obtain ⟨ab, hab⟩ : ∃ ab, Hid (w3.heap.size = ab) := ⟨_, rfl⟩
   have e5 : sb < ab := by have := hab.out; omega
   have hA4 : Hid (Blk V4 ab 64 (spC C)) := by rw [← hab.out]; exact hP4.out.blk
   have hsz4 : sb < V4.heap.size := by have := hst4.size; omega
   have hB4 := Lib.hid (hB3.out.below hst4 (by omega))
   have hR4 := Lib.hid (hR3.out.below hst4 (by omega))
   have hX4 := Lib.hid (hX3.out.below hst4 (by omega))
   have hS4 := Lib.hid (hS3.out.below hst4 (by omega))
   have hq4 : Hid (QS (fun b => K b ∧ b < tb) V4 a n c V.rs) := hq3.out.keep (w' := V4) ⟨hst4.size, fun b hb hk => hst4.block b hb⟩
   have hb4 := Lib.hid (hb3.out.trans (hst4.mono (by omega)))
   have hCi : Hid ((Tryz.prog.info? 64).map (·.size) = some (spC C).length) := by show _ = _; rw [hCS.out]; exact sizeSp
   have hC1 := Lib.hid (spC_one C)
   obtain ⟨sp, hsp⟩ : ∃ sp, Hid (spC C = sp) := ⟨_, rfl⟩
   rw [hsp.out] at hP4 hA4 hCi hC1 hCS ⊢
   have hzq : Hid (∃ q, w3.alloc (.cells zS.toArray 64) = q) := ⟨_, rfl⟩
   clear hst4 hB3 hR3 hX3 hS3 hq3 hb3 hsz3 hcf hzq
   go_upto_region 7 with (first
    | (refine wpList_store_mid (by rfl) 64 (.tmp 8) (.tmp 31) (by rfl) w3.heap.size 0 sp.toArray (by rfl) (by rfl) (by rw [hzS.out.symm] at hP4; exact hP4.out.there) hP4.out.info (by simpa using hP4.out.one) ?_
       generalize hWq : World.setCells _ _ _ _ = Wa
       obtain rfl : V4 = Wa := by rw [← hWq]; rw [hzS.out.symm] at hP4; exact hP4.out.eq
       clear hWq
       rw [hab.out]))
   cases G with
   | true =>
    have hyv : Go.Dr.accW 4 V r = (V, C, 361) := by rw [hac.out]; rfl
    have hf2 := Lib.hid (fun W hq hW => hfin.out _ a n c W hyv (hcok.out rfl) hpub.out hq hW)
    rw [hsp.out] at hf2
    clear hyv hac hfin hcok
    go_upto_region 8 with fail
    refine wp_region_held_drew (S := fun wz => Below xb V4 wz ∧ Blk wz ab 64 sp) (by kernel_rfl) (⟨(Below.refl _ V4).drew, hA4.out⟩) (fun hHeld => ?_)
    have hXd : Blk V4.drew xb 69 (wtC 0 none 0 0) := hX4.out
    have hSd : Blk V4.drew sb 64 zS := hS4.out
    generalize hWd : V4.drew = Wd at *
    clear hWd
    refine tX 0 rfl (fun wz hSw => And.intro ((hB4.out.below hSw.1 (by omega)).at_ (i := 0) (x := .int .i64 V.pub) rfl) ((hB4.out.below hSw.1 (by omega)).at_ (i := 1) (x := .slice a n c) rfl)) hHeld ?_
    refine tY 1 rfl ab 0 (sp) (fun wz h => h.2.range) Tryz.underlying64 hCi.out hHeld ?_
    refine tO 2 rfl (fun K hK => ?_)
    obtain ⟨V6, hQ⟩ := put_row (ty := 69) hXd (x := wtC V.pub a n c) rfl sizeWt (wt_one _ _ _ _)
    refine wp_store_mid 69 _ _ rfl xb 0 (wtC V.pub a n c).toArray (by rfl) (by rfl) hQ.there hQ.info (by simpa using hQ.one) ?_
    generalize hWq : World.setCells _ _ _ _ = Wa
    obtain rfl : V6 = Wa := by rw [← hWq]; exact hQ.eq
    clear hWq
    have hszz := hHeld.1.size
    have hSd6 := hSd.grown hQ.grown (by intro e; injection e; omega)
    have hXd6 := hQ.blk
    refine hK.out _ _ ⟨below_grown hHeld.1 hQ.grown (by omega) (Nat.le_refl _), hHeld.2.grown hQ.grown (by intro e; injection e; omega)⟩ (fun hHeld2 => ?_)
    clear hHeld
    have hHeld := hHeld2
    clear hHeld2 hQ
    clear hK K
    try simp only [Act.put]
    refine tO 3 rfl (fun K hK => ?_)
    obtain ⟨V7, hQ⟩ := put_row (ty := 64) hSd6 (x := sp) (by rw [hCS.out, ← hzS.out, spC_length okZS]) hCi.out hC1.out
    refine wp_store_mid 64 _ _ rfl sb 0 sp.toArray (by rfl) (by rfl) hQ.there hQ.info (by simpa using hQ.one) ?_
    generalize hWq : World.setCells _ _ _ _ = Wa
    obtain rfl : V7 = Wa := by rw [← hWq]; exact hQ.eq
    clear hWq
    have hszz := hHeld.1.size
    have hXd7 := hXd6.grown hQ.grown (by intro e; injection e; omega)
    have hSd7 := hQ.blk
    refine hK.out _ _ ⟨below_grown hHeld.1 hQ.grown (by omega) (by omega), hHeld.2.grown hQ.grown (by intro e; injection e; omega)⟩ (fun hHeld2 => ?_)
    clear hHeld
    have hHeld := hHeld2
    clear hHeld2 hQ
    clear hK K
    try simp only [Act.put]
    refine tQ 4 rfl hHeld ?_
    refine wpAnyH_done (by kernel_rfl) ?_ _
    have hq7 : QS (fun b => (K b ∧ b < tb) ∨ sb < b) V7 a n c V.rs := (hq4.out.keep (w' := V7) ⟨hHeld.1.size, fun b hb hk => hHeld.1.block b (by have := hk.2; omega)⟩).imp (fun b _ hk => .inl hk)
    have hend := hf2.out _ hq7 (hb4.out.trans (hHeld.1.mono (by omega)))
    clear hHeld hq7
    go_wp2_with fail
    exact ret_cell_cell_tmp2 (p := 4) (q := 5) (u := 6) rfl hXd7 Tryz.underlying69 rfl sizeWt hSd7 Tryz.underlying64 rfl hCi.out rfl rfl rfl rfl hend
   | false =>
    clear hcok hA4
    have y0 := hB4.out.at_ (i := 0) (x := .int .i64 V.pub) rfl
    have y1 := hB4.out.at_ (i := 1) (x := .slice a n c) rfl
    obtain ⟨V5, hP5⟩ := put_row (ty := 69) hX4.out (x := wtC V.pub a n c) rfl sizeWt (wt_one _ _ _ _)
    have hP5' := Lib.hid hP5
    have hsz5 : sb < V5.heap.size := by have := hP5.grown.size; omega
    have hB5 := Lib.hid (hB4.out.grown hP5.grown (by intro e; injection e; omega))
    have hR5 := Lib.hid (hR4.out.grown hP5.grown (by intro e; injection e; omega))
    have hX5 := Lib.hid hP5.blk
    have hS5 := Lib.hid (hS4.out.grown hP5.grown (by intro e; injection e; omega))
    have hq5 := Lib.hid (hq4.out.keep (Keeps.grown hP5.grown (fun b hb e => by omega)))
    have hb5 := Lib.hid (hb4.out.grown hP5.grown (by rw [← htb.out]; exact hb4.out.size) (fun k e => by cases e; omega))
    clear hP5 hB4 hR4 hX4 hS4 hq4 hb4 hsz4
    go_upto_region 10 with (first
     | (refine wpList_store_mid (by rfl) 69 (.tmp 4) (.tmp 36) (by rfl) xb 0 (wtC V.pub a n c).toArray (by rfl) (by rfl) hP5'.out.there hP5'.out.info (by simpa using hP5'.out.one) ?_
        generalize hWq : World.setCells _ _ _ _ = Wa
        obtain rfl : V5 = Wa := by rw [← hWq]; exact hP5'.out.eq
        clear hWq))
    clear y0 y1 hP5'
    have y1 := hB5.out.at_ (i := 1) (x := .slice a n c) rfl
    have yr := hR5.out.at_ (i := 0) (x := .int .i64 r.no) (by rw [← hre.out]; rfl)
    have hnn : n ≤ 65536 := by have := hlen.out; have := nums_len hnum.out; omega
    have hfd := Lib.hid (fun W hq => find_any (fun b => K b ∧ b < tb) a n c V.rs r.no hno.out W hq (by omega) hnum.out)
    have hinr := Lib.hid (rR_ins hoks.out r)
    have hple : Hid (Go.Dr.posR r.no V.rs ≤ n) := by have := Go.Dr.posR_le r.no V.rs; have := hlen.out; show _ ≤ _; omega
    obtain ⟨p, hp⟩ : ∃ p, Hid (Go.Dr.posR r.no V.rs = p) := ⟨_, rfl⟩
    obtain ⟨q, hq⟩ : ∃ q, Hid (Go.Dr.metR r.no V.rs = q) := ⟨_, rfl⟩
    rw [hp.out, hq.out] at hfd
    rw [hp.out] at hinr hple
    rw [hq.out] at hac
    go_wp2_with fail
    clear y1 yr
    refine (hfd.out _ hq5.out).mono ?_
    rintro e w6 ⟨rfl, hst⟩
    have hsz6 : sb < w6.heap.size := by have := hst.size; omega
    have hB6 := Lib.hid (hB5.out.below hst (by omega))
    have hR6 := Lib.hid (hR5.out.below hst (by omega))
    have hX6 := Lib.hid (hX5.out.below hst (by omega))
    have hS6 := Lib.hid (hS5.out.below hst (by omega))
    have hq6 : Hid (QS (fun b => K b ∧ b < tb) w6 a n c V.rs) := hq5.out.keep (w' := w6) ⟨hst.size, fun b hb hk => hst.block b hb⟩
    have hb6 := Lib.hid (hb5.out.trans (hst.mono (by omega)))
    clear hst hB5 hR5 hX5 hS5 hq5 hb5 hsz5
    clear hfd
    cases q with
    | true =>
     have hXE := hX6.out
     have hSE := hS6.out
     have hbE := hb6.out
     have hqE : QS (fun b => (K b ∧ b < tb) ∨ sb < b) w6 a n c V.rs := hq6.out.imp (fun b _ hb => .inl hb)
     have hyv : Go.Dr.accW 4 V r = (⟨V.pub, V.rs⟩, Go.Dr.zeroS, 0) := by rw [hac.out]; rfl
     obtain ⟨V11, hQ1⟩ := put_row (ty := 69) hXE (x := wtC V.pub a n c) rfl sizeWt (wt_one _ _ _ _)
     obtain ⟨V12, hQ2⟩ := put_row (ty := 64) (hSE.grown hQ1.grown (by intro e; injection e; omega)) (x := zS) rfl hzo.out hz1.out
     have hX12 := Lib.hid (hQ1.blk.grown hQ2.grown (by intro e; injection e; omega))
     have hS12 := Lib.hid hQ2.blk
     have hb12 : Below tb w V12 := (hbE.grown hQ1.grown (by have := hbE.size; have := htb.out; omega) (fun k e => by cases e; omega)).grown hQ2.grown (by have := hQ1.grown.size; have := hbE.size; have := htb.out; omega) (fun k e => by cases e; omega)
     have hq12 : QS (fun b => (K b ∧ b < tb) ∨ sb < b) V12 a n c V.rs := (hqE.keep (Keeps.grown hQ1.grown (fun b hb e => by omega))).keep (Keeps.grown hQ2.grown (fun b hb e => by omega))
     have hend : Hid (X (.returned (.tuple #[.agg (wtC V.pub a n c).toArray, .agg zS.toArray, .int .i64 0])) V12) := by
      have h := hfin.out _ a n c V12 hyv okZS hpub.out hq12 hb12
      rwa [hzS.out] at h
     have z0 := hXE.at_ (i := 0) (x := .int .i64 V.pub) rfl
     have z1 := hXE.at_ (i := 1) (x := .slice a n c) rfl
     have hQ1' := Lib.hid hQ1
     have hQ2' := Lib.hid hQ2
     clear hyv hQ1 hQ2 hb12 hq12 hXE hSE hqE hbE
     go_upto_region 13 with fail
     refine wp_region_list ?_
     refine BigFrame.wpList_want (by rfl) (fun K hK => ?_)
     go_simp
     refine hK _ _ ?_
     clear hK K
     try simp only [Act.put, sA, s0, s1]
     refine wpList_build_run (by rfl) 64 _ rfl #[] (by simp) (hzr.out _) ?_
     try simp only [Act.put, sA, s0, s1]
     refine wpList_store_mid (by rfl) 69 (.tmp 4) (.tmp 55) (by rfl) xb 0 (wtC V.pub a n c).toArray (by rfl) (by rfl) hQ1'.out.there hQ1'.out.info (by simpa using hQ1'.out.one) ?_
     generalize hWq : World.setCells _ _ _ _ = Wa
     obtain rfl : V11 = Wa := by rw [← hWq]; exact hQ1'.out.eq
     clear hWq
     refine wpList_store_mid (by rfl) 64 (.tmp 5) (.tmp 56) (by rfl) sb 0 zS.toArray (by rfl) (by rfl) hQ2'.out.there hQ2'.out.info (by simpa using hQ2'.out.one) ?_
     generalize hWq : World.setCells _ _ _ _ = Wa
     obtain rfl : V12 = Wa := by rw [← hWq]; exact hQ2'.out.eq
     clear hWq
     go_wp2_with fail
     exact ret_cell_cell_tmp2 (p := 4) (q := 5) (u := 6) rfl hX12.out Tryz.underlying69 rfl sizeWt hS12.out Tryz.underlying64 rfl hzo.out rfl rfl rfl rfl hend.out
    | false =>
     have hKi : Hid (∀ W A N C l, QS (fun b => sb < b) W A N C l → QS (fun b => (K b ∧ b < tb) ∨ sb < b) W A N C l) := fun W A N C l h => h.imp (fun b _ hb => .inr hb)
     have hbs := Lib.hid (root_slice1 hr'.out)
     rw [hre.out] at hbs
     have hpl := hple.out
     have hrd : Hid (∀ W, Below xb w6 W → Sl.Reads W a n c 67 (rR V.rs)) := fun W h => (hq6.out.keep (w' := W) ⟨Nat.le_trans (Nat.le_refl _) h.size, fun b hb hk => h.block b (by have := hk.2; omega)⟩).reads
     have hins : Hid (∀ B v W, W.ownsRow B 62 67 v n (rR V.rs) → ∀ vb, Blk W vb 62 rr → (∀ k, v.ownBlock = some k → vb ≠ k) → B ≤ W.heap.size → Calls Tryz.prog 91 #[v, .int .i64 (p : Int), .slice (some ⟨vb, 0, none⟩) 1 1] W (Sl.OwnsAfter B 62 67 (n + 1) (rR (Go.Dr.insR r V.rs)) W)) := fun B v W h1 vb h2 h3 h4 => by
      rw [← hinr.out]
      rw [← hre.out] at h2
      exact insertR_any B v n p (rR V.rs) (rC r) W h1 hpl (rR_one _) vb h2 h3 (rC_length hr'.out) (rC_one r) h4 (by omega)
     have hlE : Hid ((Go.Dr.insR r V.rs).length = n + 1) := by show _ = _; rw [Go.Dr.insR_length]; have := hlen.out; omega
     have hokE := Lib.hid (insR_oks hoks.out hr'.out)
     clear hinr hple hq6 hp hq
     go_upto_region 12 with fail
     refine wp_region_held_drew (S := fun wz => Below xb w6 wz ∧ (∃ a9 n9 c9, Blk wz xb 69 (wtC V.pub a9 n9 c9)) ∧ Blk wz sb 64 zS) (by kernel_rfl) (⟨(Below.refl _ w6).drew, ⟨a, n, c, hX6.out⟩, hS6.out⟩) (fun hHeld => ?_)
     have hXd : Blk w6.drew xb 69 (wtC V.pub a n c) := hX6.out
     have hszd : sb < w6.drew.heap.size := hsz6
     generalize hWd : w6.drew = Wd at *
     clear hWd
     refine tQ 0 rfl hHeld ?_
     refine tX 1 rfl (fun wz hSw => (hB6.out.below hSw.1 (by omega)).at_ (i := 1) (x := .slice a n c) rfl) hHeld ?_
     refine tQ 3 rfl hHeld ?_
     refine tY 4 rfl rb 0 (rr) (fun wz h => (hR6.out.below h.1 (by omega)).range) Tryz.underlying62 hri.out hHeld ?_
     refine rd (rs := [2, 5]) ?_
     refine tR rfl (fun K hK => ?_) (tR rfl (fun K hK => ?_) rn)
     case refine_1 =>
      go_simp
      go_at_call 92
      refine (cloneR_any a n c (rR V.rs) _ (hrd.out _ hHeld.1) (rR_one _) (by omega)).mono ?_
      rintro e wq ⟨v, rfl, hown, hst⟩
      have hXq := hXd.below hst (by omega)
      have hszq : sb < wq.heap.size := by have := hst.size; omega
      refine hK.out _ _ ⟨hHeld.1.trans (hst.mono (by omega)), ⟨_, _, _, hXq⟩, hHeld.2.2.below hst (by omega)⟩ (fun hHeld2 => ?_)
      clear hK K
      clear hHeld
      have hHeld := hHeld2
      clear hHeld2
      try simp only [Act.put, sA, s0, s1]
      refine tO 5 rfl (fun K hK => ?_)
      refine wp_buildSlice_run _ _ _ rfl #[(0, .agg rr.toArray)] (by simp only [List.map_toArray, List.map_cons, List.map_nil]; rfl) (hbs.out _) ?_
      have hNb : Blk (wq.alloc (.cells rr.toArray 62)) wq.heap.size 62 rr := Blk.new wq _ rr
      have hNv : ∀ k, v.ownBlock = some k → wq.heap.size ≠ k := fun k e => by have := World.ownsRow.lt hown k e; omega
      have hown' := World.ownsRow.alloc hown (.cells rr.toArray 62)
      have hst2 : Below wq.heap.size wq (wq.alloc (.cells rr.toArray 62)) := (Below.refl _ _).alloc (Nat.le_refl _) _
      have hBw := hst.size
      have hXn := hXq.below hst2 (by omega)
      have hszn : sb < (wq.alloc (.cells rr.toArray 62)).heap.size := by have := hst2.size; omega
      refine hK.out _ _ ⟨hHeld.1.trans (hst2.mono (by omega)), ⟨_, _, _, hXn⟩, hHeld.2.2.below hst2 (by omega)⟩ (fun hHeld2 => ?_)
      clear hK K
      clear hown
      have hown := hown'
      clear hown'
      clear hHeld
      have hHeld := hHeld2
      clear hHeld2
      try simp only [Act.put, sA, s0, s1]
      refine rd (rs := [6]) ?_
      refine AllReadyH.cons (o := ⟨some 53, .call { callee := .value (.func 91), args := #[.tmp 49, .tmp 50, .tmp 52], argTypes := #[67, 3, 67] }, 67, "gossip.go:78", #[⟨2, .data⟩, ⟨3, .data⟩, ⟨5, .data⟩, ⟨2, .chain⟩], none⟩) rfl (fun K hK => ?_) AllReadyH.nil
      have hBn := hst2.size
      rw [if_pos (by rfl)]
      show Oper.wp _ _ _ _ K _
      go_simp
      go_at_call 91
      refine (hins.out Wd.heap.size v _ hown wq.heap.size hNb hNv (by omega)).mono ?_
      rintro e wy ⟨v2, rfl, hown2, hst⟩
      obtain ⟨a2, c2, hv2, hqE0⟩ := own_qs hown2 hlE.out hokE.out
      subst hv2
      have hXy := hXn.below hst (by omega)
      have hszy : sb < wy.heap.size := by have := hst.size; omega
      refine hK.out _ _ ⟨hHeld.1.trans (hst.mono (by omega)), ⟨_, _, _, hXy⟩, hHeld.2.2.below hst (by omega)⟩ (fun hHeld2 => ?_)
      clear hK K hHeld hown hown2 hNb hst
      have hHeld := hHeld2
      clear hHeld2
      try simp only [Act.put, sA, s0, s1]
      refine tQ 7 rfl hHeld ?_
      refine tO 8 rfl (fun K hK => ?_)
      have q2 := hXy.at_ (i := 1) (x := .slice a n c) rfl
      have f2 := hXy.frozen 1
      show Oper.wp _ _ _ _ K _
      go_simp
      have hXE : Blk (wy.setCell ⟨xb, 1, none⟩ (.slice a2 (n + 1) c2)) xb 69 (wtC V.pub a2 (n + 1) c2) := hXy.set 1 (.slice a2 (n + 1) c2)
      have hgs2 : wy.grownBy (wy.setCell ⟨xb, 1, none⟩ (.slice a2 (n + 1) c2)) (some xb) := grown_set (World.grownBy.refl wy _) (.inl rfl) _
      have hSE := hHeld.2.2.grown hgs2 (by intro e; injection e; omega)
      have hbE1 := below_grown hHeld.1 hgs2 (by omega) (Nat.le_refl _)
      have hqE := hKi.out _ _ _ _ _ ((hqE0.keep (Keeps.grown hgs2 (fun b hb e => by omega))).imp (K' := fun b => sb < b) (fun b _ hb => by omega))
      have hbE := hb6.out.trans (hbE1.mono (by omega))
      clear q2 f2
      refine hK.out _ _ ⟨hbE1, ⟨_, _, _, hXE⟩, hSE⟩ (fun hHeld2 => ?_)
      clear hK K hHeld hHeld2 hbE1 hgs2 hXy hqE0
      try simp only [Act.put, sA, s0, s1]
      refine wpAnyH_done (by kernel_rfl) ?_ _
      have hyv : Go.Dr.accW 4 V r = (⟨V.pub, (Go.Dr.insR r V.rs)⟩, Go.Dr.zeroS, 0) := by rw [hac.out]; rfl
      obtain ⟨V11, hQ1⟩ := put_row (ty := 69) hXE (x := wtC V.pub a2 (n + 1) c2) rfl sizeWt (wt_one _ _ _ _)
      obtain ⟨V12, hQ2⟩ := put_row (ty := 64) (hSE.grown hQ1.grown (by intro e; injection e; omega)) (x := zS) rfl hzo.out hz1.out
      have hX12 := Lib.hid (hQ1.blk.grown hQ2.grown (by intro e; injection e; omega))
      have hS12 := Lib.hid hQ2.blk
      have hb12 : Below tb w V12 := (hbE.grown hQ1.grown (by have := hbE.size; have := htb.out; omega) (fun k e => by cases e; omega)).grown hQ2.grown (by have := hQ1.grown.size; have := hbE.size; have := htb.out; omega) (fun k e => by cases e; omega)
      have hq12 : QS (fun b => (K b ∧ b < tb) ∨ sb < b) V12 a2 (n + 1) c2 (Go.Dr.insR r V.rs) := (hqE.keep (Keeps.grown hQ1.grown (fun b hb e => by omega))).keep (Keeps.grown hQ2.grown (fun b hb e => by omega))
      have hend : Hid (X (.returned (.tuple #[.agg (wtC V.pub a2 (n + 1) c2).toArray, .agg zS.toArray, .int .i64 0])) V12) := by
       have h := hfin.out _ a2 (n + 1) c2 V12 hyv okZS hpub.out hq12 hb12
       rwa [hzS.out] at h
      have z0 := hXE.at_ (i := 0) (x := .int .i64 V.pub) rfl
      have z1 := hXE.at_ (i := 1) (x := .slice a2 (n + 1) c2) rfl
      have hQ1' := Lib.hid hQ1
      have hQ2' := Lib.hid hQ2
      clear hyv hQ1 hQ2 hb12 hq12 hXE hSE hqE hbE
      go_upto_region 13 with fail
      refine wp_region_list ?_
      refine BigFrame.wpList_want (by rfl) (fun K hK => ?_)
      go_simp
      refine hK _ _ ?_
      clear hK K
      try simp only [Act.put, sA, s0, s1]
      refine wpList_build_run (by rfl) 64 _ rfl #[] (by simp) (hzr.out _) ?_
      try simp only [Act.put, sA, s0, s1]
      refine wpList_store_mid (by rfl) 69 (.tmp 4) (.tmp 55) (by rfl) xb 0 (wtC V.pub a2 (n + 1) c2).toArray (by rfl) (by rfl) hQ1'.out.there hQ1'.out.info (by simpa using hQ1'.out.one) ?_
      generalize hWq : World.setCells _ _ _ _ = Wa
      obtain rfl : V11 = Wa := by rw [← hWq]; exact hQ1'.out.eq
      clear hWq
      refine wpList_store_mid (by rfl) 64 (.tmp 5) (.tmp 56) (by rfl) sb 0 zS.toArray (by rfl) (by rfl) hQ2'.out.there hQ2'.out.info (by simpa using hQ2'.out.one) ?_
      generalize hWq : World.setCells _ _ _ _ = Wa
      obtain rfl : V12 = Wa := by rw [← hWq]; exact hQ2'.out.eq
      clear hWq
      go_wp2_with fail
      exact ret_cell_cell_tmp2 (p := 4) (q := 5) (u := 6) rfl hX12.out Tryz.underlying69 rfl sizeWt hS12.out Tryz.underlying64 rfl hzo.out rfl rfl rfl rfl hend.out
     case refine_2 =>
      refine wp_buildSlice_run _ _ _ rfl #[(0, .agg rr.toArray)] (by simp only [List.map_toArray, List.map_cons, List.map_nil]; rfl) (hbs.out _) ?_
      have hNb : Blk (Wd.alloc (.cells rr.toArray 62)) Wd.heap.size 62 rr := Blk.new Wd _ rr
      have hst2 : Below Wd.heap.size Wd (Wd.alloc (.cells rr.toArray 62)) := (Below.refl _ _).alloc (Nat.le_refl _) _
      have hszN : (Wd.alloc (.cells rr.toArray 62)).heap.size = Wd.heap.size + 1 := World.size_alloc _ _
      have hXn := hXd.below hst2 (by omega)
      have hszn : sb < (Wd.alloc (.cells rr.toArray 62)).heap.size := by have := hst2.size; omega
      refine hK.out _ _ ⟨hHeld.1.trans (hst2.mono (by omega)), ⟨_, _, _, hXn⟩, hHeld.2.2.below hst2 (by omega)⟩ (fun hHeld2 => ?_)
      clear hK K
      clear hHeld
      have hHeld := hHeld2
      clear hHeld2
      try simp only [Act.put, sA, s0, s1]
      generalize Wd.alloc (.cells rr.toArray 62) = Wn at *
      refine tO 2 rfl (fun K hK => ?_)
      go_simp
      go_at_call 92
      refine (cloneR_any a n c (rR V.rs) _ (hrd.out _ hHeld.1) (rR_one _) (by omega)).mono ?_
      rintro e wq ⟨v, rfl, hown, hst⟩
      have hNb2 := hNb.below hst (by omega)
      have hNv : ∀ k, v.ownBlock = some k → Wd.heap.size ≠ k := fun k e => by have := (World.ownsRow.lt hown k e).1; omega
      have hBw := hst.size
      have hXq := hXn.below hst (by omega)
      have hszq : sb < wq.heap.size := by have := hst.size; omega
      refine hK.out _ _ ⟨hHeld.1.trans (hst.mono (by omega)), ⟨_, _, _, hXq⟩, hHeld.2.2.below hst (by omega)⟩ (fun hHeld2 => ?_)
      clear hK K
      clear hNb
      have hNb := hNb2
      clear hNb2
      clear hHeld
      have hHeld := hHeld2
      clear hHeld2
      try simp only [Act.put, sA, s0, s1]
      refine tO 6 rfl (fun K hK => ?_)
      go_simp
      go_at_call 91
      refine (hins.out Wn.heap.size v _ hown Wd.heap.size hNb hNv (by omega)).mono ?_
      rintro e wy ⟨v2, rfl, hown2, hst⟩
      obtain ⟨a2, c2, hv2, hqE0⟩ := own_qs hown2 hlE.out hokE.out
      subst hv2
      have hXy := hXq.below hst (by omega)
      have hszy : sb < wy.heap.size := by have := hst.size; omega
      refine hK.out _ _ ⟨hHeld.1.trans (hst.mono (by omega)), ⟨_, _, _, hXy⟩, hHeld.2.2.below hst (by omega)⟩ (fun hHeld2 => ?_)
      clear hK K hHeld hown hown2 hNb hst
      have hHeld := hHeld2
      clear hHeld2
      try simp only [Act.put, sA, s0, s1]
      refine tQ 7 rfl hHeld ?_
      refine tO 8 rfl (fun K hK => ?_)
      have q2 := hXy.at_ (i := 1) (x := .slice a n c) rfl
      have f2 := hXy.frozen 1
      show Oper.wp _ _ _ _ K _
      go_simp
      have hXE : Blk (wy.setCell ⟨xb, 1, none⟩ (.slice a2 (n + 1) c2)) xb 69 (wtC V.pub a2 (n + 1) c2) := hXy.set 1 (.slice a2 (n + 1) c2)
      have hgs2 : wy.grownBy (wy.setCell ⟨xb, 1, none⟩ (.slice a2 (n + 1) c2)) (some xb) := grown_set (World.grownBy.refl wy _) (.inl rfl) _
      have hSE := hHeld.2.2.grown hgs2 (by intro e; injection e; omega)
      have hbE1 := below_grown hHeld.1 hgs2 (by omega) (Nat.le_refl _)
      have hqE := hKi.out _ _ _ _ _ ((hqE0.keep (Keeps.grown hgs2 (fun b hb e => by omega))).imp (K' := fun b => sb < b) (fun b _ hb => by omega))
      have hbE := hb6.out.trans (hbE1.mono (by omega))
      clear q2 f2
      refine hK.out _ _ ⟨hbE1, ⟨_, _, _, hXE⟩, hSE⟩ (fun hHeld2 => ?_)
      clear hK K hHeld hHeld2 hbE1 hgs2 hXy hqE0
      try simp only [Act.put, sA, s0, s1]
      refine wpAnyH_done (by kernel_rfl) ?_ _
      have hyv : Go.Dr.accW 4 V r = (⟨V.pub, (Go.Dr.insR r V.rs)⟩, Go.Dr.zeroS, 0) := by rw [hac.out]; rfl
      obtain ⟨V11, hQ1⟩ := put_row (ty := 69) hXE (x := wtC V.pub a2 (n + 1) c2) rfl sizeWt (wt_one _ _ _ _)
      obtain ⟨V12, hQ2⟩ := put_row (ty := 64) (hSE.grown hQ1.grown (by intro e; injection e; omega)) (x := zS) rfl hzo.out hz1.out
      have hX12 := Lib.hid (hQ1.blk.grown hQ2.grown (by intro e; injection e; omega))
      have hS12 := Lib.hid hQ2.blk
      have hb12 : Below tb w V12 := (hbE.grown hQ1.grown (by have := hbE.size; have := htb.out; omega) (fun k e => by cases e; omega)).grown hQ2.grown (by have := hQ1.grown.size; have := hbE.size; have := htb.out; omega) (fun k e => by cases e; omega)
      have hq12 : QS (fun b => (K b ∧ b < tb) ∨ sb < b) V12 a2 (n + 1) c2 (Go.Dr.insR r V.rs) := (hqE.keep (Keeps.grown hQ1.grown (fun b hb e => by omega))).keep (Keeps.grown hQ2.grown (fun b hb e => by omega))
      have hend : Hid (X (.returned (.tuple #[.agg (wtC V.pub a2 (n + 1) c2).toArray, .agg zS.toArray, .int .i64 0])) V12) := by
       have h := hfin.out _ a2 (n + 1) c2 V12 hyv okZS hpub.out hq12 hb12
       rwa [hzS.out] at h
      have z0 := hXE.at_ (i := 0) (x := .int .i64 V.pub) rfl
      have z1 := hXE.at_ (i := 1) (x := .slice a2 (n + 1) c2) rfl
      have hQ1' := Lib.hid hQ1
      have hQ2' := Lib.hid hQ2
      clear hyv hQ1 hQ2 hb12 hq12 hXE hSE hqE hbE
      go_upto_region 13 with fail
      refine wp_region_list ?_
      refine BigFrame.wpList_want (by rfl) (fun K hK => ?_)
      go_simp
      refine hK _ _ ?_
      clear hK K
      try simp only [Act.put, sA, s0, s1]
      refine wpList_build_run (by rfl) 64 _ rfl #[] (by simp) (hzr.out _) ?_
      try simp only [Act.put, sA, s0, s1]
      refine wpList_store_mid (by rfl) 69 (.tmp 4) (.tmp 55) (by rfl) xb 0 (wtC V.pub a2 (n + 1) c2).toArray (by rfl) (by rfl) hQ1'.out.there hQ1'.out.info (by simpa using hQ1'.out.one) ?_
      generalize hWq : World.setCells _ _ _ _ = Wa
      obtain rfl : V11 = Wa := by rw [← hWq]; exact hQ1'.out.eq
      clear hWq
      refine wpList_store_mid (by rfl) 64 (.tmp 5) (.tmp 56) (by rfl) sb 0 zS.toArray (by rfl) (by rfl) hQ2'.out.there hQ2'.out.info (by simpa using hQ2'.out.one) ?_
      generalize hWq : World.setCells _ _ _ _ = Wa
      obtain rfl : V12 = Wa := by rw [← hWq]; exact hQ2'.out.eq
      clear hWq
      go_wp2_with fail
      exact ret_cell_cell_tmp2 (p := 4) (q := 5) (u := 6) rfl hX12.out Tryz.underlying69 rfl sizeWt hS12.out Tryz.underlying64 rfl hzo.out rfl rfl rfl rfl hend.out
end Go.Proofs.YtlpgjdlkjahdgaaGreatDoor
