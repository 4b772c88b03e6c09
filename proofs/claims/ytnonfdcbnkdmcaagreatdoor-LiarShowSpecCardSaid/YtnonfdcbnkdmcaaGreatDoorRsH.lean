/- the reference 30: Digests, Chain; the reference 02: Chain the reference 30: Verify, Sign the reference 30: Sign; store.Sign where open fails -/
import Derived.Test.YtnonfdcbnkdmcaaGreatDoorAl
import Derived.Test.YtnonfdcbnkdmcaaGreatDoorRsE
import Derived.Test.YtnonfdcbnkdmcaaGreatDoorSgA
import Derived.Test.YtnonfdcbnkdmcaaGreatDoorRgA
namespace Go.Proofs.YtnonfdcbnkdmcaaGreatDoor
open Go.RowKit Go.Mem
open Go.Sto (Ent Lg St)
theorem own_newD {w0 W : World} (hb : Below w0.heap.size w0 W) : OwnD w0 (W.alloc (.cells #[] 32)) (.slice (some ⟨W.heap.size, 0, none⟩) 0 0) [] :=
 ⟨⟨rfl, Or.inr ⟨W.heap.size, 0, #[], rfl, hb.size, heap_alloc_new W _, Nat.le_refl _, by unfold maxLen; omega, rfl, rfl⟩⟩, fun _ h => by cases h⟩
set_option maxRecDepth 20000 in
set_option maxHeartbeats 4000000 in
theorem r30digs_any (K : Nat → Prop) (a : Option Addr) (n c : Nat) (l : List Ent) (w : World) (H : ES K w a n c l) :
 Calls Tryz.prog 64 #[.slice a n c] w (ColPost (l.map (·.dig)) w) := by
 have H' := Lib.hid H
 have hlen := H.rs.len
 have hbd := H.bd
 have n63 : (n : Int) ≤ 100000 := by omega
 clear H
 obtain ⟨X, hX⟩ : ∃ X, X = ColPost (l.map (·.dig)) w := ⟨_, rfl⟩
 have hfin : Hid (∀ v W, OwnD w W v (l.map (·.dig)) → Below w.heap.size w W → X (.returned v) W) := fun v W hO hb => by
  obtain ⟨a, c, rfl, hD⟩ := hO.ds
  rw [hX]
  exact ⟨a, c, rfl, hD, hb⟩
 rw [← hX]
 clear hX
 go_enter Tryz.func64, Tryz.ntmps64
 go_wp2_with fail
 go_loopw [3, 4] (fun sl i wr => ∃ (k : Nat) (sv : Value), k ≤ n ∧ i = .int .i64 k ∧ sl = sv ∧ Hid (OwnD w wr sv ((l.take k).map (·.dig))) ∧ Hid (Below w.heap.size w wr)) (fun _ i _ => n - (intOf i).toNat)
 case atStart => exact ⟨0, _, Nat.zero_le _, rfl, rfl, own_newD (Below.refl _ _), (Below.refl _ w).alloc (Nat.le_refl _) _⟩
 case round =>
  obtain ⟨k, sv, hk, rfl, rfl, hO, hbw⟩ := hrel
  by_cases hklt : k < n
  case pos =>
   obtain ⟨x, hx⟩ : ∃ x, l[k]? = some x := ⟨_, List.getElem?_eq_getElem (by omega)⟩
   obtain ⟨b, off, r, rfl, hbl, _, ⟨ho, ea, en, ec, rfl, _⟩, hrl, hrg⟩ := (RS.keep (R' := EV K) H'.out.rs (.below hbw.out) fun e r ⟨h1, a, n, c, h2, h3⟩ => ⟨h1, a, n, c, h2, h3.keep (.below hbw.out)⟩).get hx
   have hdr := Lib.hid (EntR.of hrg ho.dig).dig
   have hdi : Hid ((Tryz.prog.info? 32).map (·.size) = some (bv x.dig).length) := by show _ = _; rw [bv_length, ho.dig]; exact size35
   have hdl : ((l.take k).map (·.dig)).length + 1 ≤ 1000000000000 := by rw [List.length_map, List.length_take]; omega
   obtain ⟨v', W7, hr7, hO7, hb7⟩ := append_dg (d := x.dig) hO.out hbw.out ⟨ho.dig, ho.lt⟩ hdl
   rw [show (l.take k).map (·.dig) ++ [x.dig] = (l.take (k + 1)).map (·.dig) from by rw [List.take_succ_eq_append_getElem (List.getElem?_eq_some_iff.1 hx).1, List.map_append, (List.getElem?_eq_some_iff.1 hx).2]; rfl] at hO7
   have hr7' := Lib.hid hr7; have hO7' := Lib.hid hO7; have hb7' := Lib.hid hb7
   have hds := dig_slice1 ho.dig wr
   have k0 : (0 : Int) ≤ (k : Int) := by omega
   have k1 : (k : Int) < (n : Int) := by omega
   clear hr7 hO7 hb7 hO hbw hrg hrl ho hdl hx
   go_wp2_with (first
    | (refine wpList_load_mid (by rfl) 32 _ (by rfl) b (off + k * 35 + 1) (by rfl) (bv x.dig) _ hdr.out Tryz.underlying32 (by rfl) hdi.out ?_)
     | (refine wpList_buildSlice_run (by rfl) 47 1 _ rfl #[(0, .agg (bv x.dig).toArray)] (by simp only [List.map_toArray, List.map_cons, List.map_nil]; rfl) hds ?_)
     | (at_builtin; refine Lib.wpList_append_run _ rfl _ _ _ _ rfl _ _ rfl rfl _ _ (hr7'.out _) ?_))
   go_roundw
   case rel => exact ⟨k + 1, v', by omega, by go_num, rfl, hO7', hb7'⟩
   case measure => simp [intOf]; omega
  case neg =>
   obtain rfl : k = n := by omega
   rw [List.take_of_length_le (by omega)] at hO
   have hf := Lib.hid (hfin.out _ _ hO.out hbw.out)
   clear hfin hO
   go_wp2_with fail
   exact hf.out

def PrC (w : World) (tb : Nat) (a c : List Nat) (wz : World) : Prop := Blk wz tb 32 (bv a) ∧ Blk wz (tb + 1) 32 (bv c) ∧ Blk wz (tb + 1 + 1) 32 (bv (List.replicate 32 0)) ∧ Below w.heap.size w wz ∧ w.heap.size ≤ tb
section
variable {w wz wq : World} {tb : Nat} {a c : List Nat}
theorem PrC.next (hb : Below wz.heap.size wz wq) (h : PrC w tb a c wz) : PrC w tb a c wq := ⟨h.1.below hb h.1.lt, h.2.1.below hb h.2.1.lt, h.2.2.1.below hb h.2.2.1.lt, h.2.2.2.1.trans (hb.mono h.2.2.2.1.size), h.2.2.2.2⟩
theorem PrC.drew (h : PrC w tb a c wz) : PrC w tb a c wz.drew := h.next ((Below.refl _ _).drew)
end
theorem whole32c {W : World} {b : Nat} {u : List Nat} (hu : u.length = 32) (hq : ∀ q ∈ u, q < 256) (h : Blk W b 32 (bv u)) : BS W (some ⟨b, 0, none⟩) 32 32 u := by
 have := Blk.bs (pre := []) (post := []) (l := u) (c := 32) (by simpa using h) (by omega) (by omega) hq
 rwa [hu] at this
theorem empty_bytesC (W : World) : (Instr.buildSlice 71 0 #[]).run Tryz.prog W = .ok (.slice (some ⟨W.heap.size, 0, none⟩) 0 0) (W.alloc (.cells #[] 5)) := by kernel_rfl
set_option maxRecDepth 20000 in
set_option maxHeartbeats 2000000 in
theorem r2chain_any (a c : List Nat) (ha : a.length = 32) (hc : c.length = 32) (hal : ∀ u ∈ a, u < 256) (hcl : ∀ u ∈ c, u < 256) (w : World) :
 Calls Tryz.prog 135 #[.agg (bv a).toArray, .agg (bv c).toArray] w (DigPost (Sha.chain a c) w) := by
 obtain ⟨X, hX⟩ : ∃ X, Hid (X = DigPost (Sha.chain a c) w) := ⟨_, rfl⟩
 rw [← hX.out]
 have ha' := Lib.hid ha; have hc' := Lib.hid hc; have hal' := Lib.hid hal; have hcl' := Lib.hid hcl
 clear ha hc hal hcl
 obtain ⟨tb, htb⟩ : ∃ tb, Hid (w.heap.size = tb) := ⟨_, rfl⟩
 go_enter Tryz.func135, Tryz.ntmps135
 go_upto_region 1 with fail
 rw [htb.out]
 generalize hW : World.alloc _ _ = W
 have hM : PrC w tb a c W := by
  rw [← hW, ← htb.out]
  refine ⟨((Blk.new w _ (bv a)).alloc _).alloc _, ?_, ?_, (((Below.refl _ w).alloc (Nat.le_refl _) _).alloc (by simp) _).alloc (by simp; omega) _, Nat.le_refl _⟩
  · have := Blk.new (w.alloc (.cells (bv a).toArray 32)) 32 (bv c)
    rw [World.size_alloc] at this
    exact this.alloc _
  · have := Blk.new ((w.alloc (.cells (bv a).toArray 32)).alloc (.cells (bv c).toArray 32)) 32 (bv (List.replicate 32 0))
    rw [World.size_alloc, World.size_alloc] at this
    exact this
 clear hW
 refine wp_region_held_drew (S := fun wz => True) (by kernel_rfl) (trivial) (fun hHeld => ?_)
 have hM0 := hM.drew
 generalize W.drew = W0 at *
 clear hM
 refine tQ 1 rfl hHeld ?_
 refine tQ 3 rfl hHeld ?_
 refine tO 0 rfl (fun K hK => ?_)
 refine wp_buildSlice_run 71 0 #[] rfl #[] (by simp) (empty_bytesC W0) ?_
 refine hK.out _ _ trivial (fun hHeld => ?_)
 clear hK K
 try simp only [Act.put, sA, s0, s1]
 refine tO 2 rfl (fun K hK => ?_)
 obtain ⟨v1, W1, hr1, ho1, hb1⟩ := append_byL (own_new W0) (by simp) ((Below.refl _ W0).alloc (Nat.le_refl _) (.cells #[] 5)) (bw_of (whole32c ha'.out hal'.out (hM0.1.alloc (.cells #[] 5)))) (by simp)
 rw [List.nil_append] at ho1
 refine wp_append_run rfl _ _ (by rfl) (by rfl) (hr1 _) ?_
 refine hK.out _ _ trivial (fun hHeld => ?_)
 clear hr1
 clear hK K
 try simp only [Act.put, sA, s0, s1]
 refine tO 4 rfl (fun K hK => ?_)
 obtain ⟨v2, W2, hr2, ho2, hb2⟩ := append_byL ho1 hb1.size hb1 (bw_of (whole32c hc'.out hcl'.out (PrC.next hb1 hM0).2.1)) (by rw [ha'.out]; omega)
 refine wp_append_run rfl _ _ (by rfl) (by rfl) (hr2 _) ?_
 have hM2 := PrC.next hb2 hM0
 obtain ⟨a2, c2, rfl, hS2⟩ := BS.own ho2.1 ho2.2
 rw [List.length_append, ha'.out, hc'.out] at hS2 ⊢
 refine hK.out _ _ trivial (fun hHeld => ?_)
 clear hr2 ho1 hb1 ho2 hb2 hM0
 clear hK K
 try simp only [Act.put, sA, s0, s1]
 refine tO 5 rfl (fun K hK => ?_)
 go_simp
 go_at_call 134
 refine (r2tagged_any ⟨#[99, 104, 97, 105, 110]⟩ (by decide) _ _ _ _ W2 (bw_of hS2) (by omega)).mono ?_
 rintro e W3 ⟨rfl, hb3⟩
 have hM3 := PrC.next hb3 hM2
 rw [show Sha.tagged (octets ⟨#[99, 104, 97, 105, 110]⟩) (a ++ c) = Sha.chain a c from rfl]
 obtain ⟨D, hDD⟩ : ∃ D, Hid (bv (Sha.chain a c) = D) := ⟨_, rfl⟩
 have hDl : D.length = 32 := by rw [← hDD.out, bv_length]; exact Sha.tagged_length _ _
 have hD1 : ∀ u ∈ D, u.oneCell' = true := by rw [← hDD.out]; exact bv_one _
 rw [hDD.out]
 refine hK.out _ _ trivial (fun hHeld => ?_)
 clear hb3 hM2 hS2
 clear hK K
 try simp only [Act.put, sA, s0, s1]
 refine tO 6 rfl (fun K hK => ?_)
 have hP := Lib.hid (Put.mk' (ty := 32) (RES := D) hM3.2.2.1 (by rw [hDl]; rfl) (by rw [hDl]; exact size35) hD1)
 refine wp_store_mid 32 _ _ rfl (tb + 1 + 1) 0 D.toArray (by rfl) (by rfl) hP.out.th hP.out.inf hP.out.one ?_
 refine hK.out _ _ trivial (fun hHeld => ?_)
 clear hK K
 try simp only [Act.put]
 refine wpAnyH_done (by kernel_rfl) ?_ _
 have hend : Hid (X (.returned (.agg D.toArray)) (W3.setCells (tb + 1 + 1) 0 D)) := by
  show X _ _
  rw [hX.out, ← hDD.out]; exact ⟨rfl, by rw [hDD.out]; exact below_grown hM3.2.2.2.1 hP.out.grw hM3.2.2.2.1.size (by have := hM3.2.2.2.2; omega)⟩
 clear hDl hD1 hM3
 go_wp2_with fail
 exact bodyPost_ret (results_cell_row rfl _ _ (tb + 1 + 1) 32 D.toArray (0, 0) _ rfl hP.out.blk Tryz.underlying32 rfl hP.out.inf) rfl hend.out

set_option maxRecDepth 20000 in
set_option maxHeartbeats 2000000 in
theorem r30chain_any (folder : Int) (_hk : -9223372036854775808 ≤ folder ∧ folder ≤ 9223372036854775807) (a : Option Addr) (n c : Nat) (l : List (List Nat)) (w : World) (H : DS w a n c l) :
 Calls Tryz.prog 88 #[.int .i64 folder, .slice a n c] w (DigPost (chainD folder l) w) := by
 have n63 : (n : Int) ≤ 9223372036854775807 := by have := H.le; have := H.max; omega
 have H' := Lib.hid H
 clear H
 obtain ⟨k0, k1⟩ := _hk
 obtain ⟨X, hX⟩ : ∃ X, Hid (X = DigPost (chainD folder l) w) := ⟨_, rfl⟩
 rw [← hX.out]
 obtain ⟨tb, htb⟩ : ∃ tb, Hid (w.heap.size = tb) := ⟨_, rfl⟩
 go_enter Tryz.func88, Tryz.ntmps88
 go_upto_region 1 with fail
 rw [htb.out]
 generalize hW : World.alloc w _ = W
 have hD : Hid (Blk W tb 32 (bv (List.replicate 32 0))) := by rw [← hW, ← htb.out]; exact Blk.new w _ _
 have hb : Hid (Below w.heap.size w W) := by rw [← hW]; exact (Below.refl _ w).alloc (Nat.le_refl _) _
 clear hW
 have hk1 := Lib.hid (one_bs (Blk.new W 5 [.int .u8 (folder % 256)]))
 have hed : Hid (Sha.tagged (octets ⟨#[108, 111, 103]⟩) [(folder % 256).toNat] = logD folder) := rfl
 go_wp2_with fail
 refine (r2tagged_any ⟨#[108, 111, 103]⟩ (by decide) _ _ _ _ _ (bw_of hk1.out) (by omega)).mono ?_
 rintro e W8 ⟨rfl, hb8⟩
 have hwa := Lib.hid ((Below.refl _ W).alloc (Nat.le_refl _) (.cells #[.int .u8 (folder % 256)] 5))
 have hb8' := Lib.hid (hb.out.trans ((hwa.out.trans (hb8.mono (by simp))).mono hb.out.size))
 have hD8 := Lib.hid (hD.out.below (hwa.out.trans (hb8.mono (by simp))) hD.out.lt)
 have htl : Hid (tb < W8.heap.size) := hD8.out.lt
 clear hb hD hk1 hb8 hwa
 rw [hed.out]
 have hll : Hid ((logD folder).length = 32 ∧ ∀ u ∈ logD folder, u < 256) := ⟨Sha.tagged_length _ _, Sha.tagged_lt _ _⟩
 obtain ⟨W9, hP⟩ := put_dig (x := logD folder) (Blk.new W8 32 (bv (List.replicate 32 0))) (by simp) hll.out.1
 have hfold : Hid (chainD folder l = (l.drop 0).foldl Sha.chain (logD folder)) := rfl
 have hT9 : Hid (Blk W9 tb 32 (bv (List.replicate 32 0))) := (hD8.out.alloc _).grown hP.grown (fun e => by have := htl.out; cases e; omega)
 have hb9 : Hid (Below w.heap.size w W9) := below_grown (hb8'.out.alloc hb8'.out.size _) hP.grown (Nat.le_trans hb8'.out.size (by simp)) hb8'.out.size
 generalize logD folder = E0 at *
 obtain ⟨eb, heq⟩ : ∃ eb, Hid (W8.heap.size = eb) := ⟨_, rfl⟩
 have heb : Hid (tb < eb) := by rw [← heq.out]; exact htl.out
 have hB9 : Hid (Blk W9 eb 32 (bv E0)) := by rw [← heq.out]; exact hP.blk
 obtain ⟨RES, hRES⟩ : ∃ R, Hid (bv E0 = R) := ⟨_, rfl⟩
 have hP' := Lib.hid hP
 rw [heq.out] at hP'
 rw [hRES.out] at hP' ⊢
 clear hP hed htl hD8 hb8'
 have hi32 : Hid ((Tryz.prog.info? 32).map (·.size) = some 32) := size35
 go_upto_region 2 with (first
  | (rw [heq.out]
     refine wpList_store_mid (by rfl) 32 (.tmp 5) (.tmp 10) (by rfl) eb 0 RES.toArray (by rfl) (by rfl) hP'.out.there hP'.out.info (by simpa using hP'.out.one) ?_
     generalize hW9 : World.setCells _ _ _ _ = Wa
     obtain rfl : W9 = Wa := by rw [← hW9]; exact hP'.out.eq
     clear hW9))
 clear hP' hRES heq
 go_wp2_with fail
 go_loopw [6] (fun i wr => ∃ (k : Nat) (E : List Nat), k ≤ n ∧ i = .int .i64 k ∧ Hid (E.length = 32 ∧ ∀ u ∈ E, u < 256) ∧ Hid (Blk wr eb 32 (bv E)) ∧ Hid (Blk wr tb 32 (bv (List.replicate 32 0))) ∧ Hid (Below w.heap.size w wr) ∧ Hid (chainD folder l = (l.drop k).foldl Sha.chain E)) (fun i _ => n - (intOf i).toNat)
 case atStart => exact ⟨0, E0, Nat.zero_le _, rfl, hll, hB9, hT9, hb9, hfold⟩
 case round =>
  obtain ⟨k, E, hk, rfl, hE, hB, hT, hbr, hf⟩ := hrel
  clear hfold hB9 hb9 hT9 hll
  by_cases hlt : k < n
  · have hkl : k < l.length := by rw [H'.out.len]; exact hlt
    have hax : a ≠ none := fun e => by have := H'.out.nil e; omega
    obtain ⟨ad, rfl⟩ := Option.ne_none_iff_exists'.1 hax
    obtain ⟨b, off, rfl, hbl, hc⟩ := H'.out.cells (by omega) _ rfl
    have hrg := hc k l[k] (List.getElem?_eq_getElem hkl)
    obtain ⟨hd1, hd2⟩ := H'.out.ok l[k] (List.getElem_mem hkl)
    have hf' := hf.out
    rw [List.drop_eq_getElem_cons hkl, List.foldl_cons] at hf'
    generalize l[k] = d at *
    have hr1 : Hid (wr.rangeAt b (off + k * 32) (bv d)) := fun j v hv => (hbr.out.cell (p := ⟨b, _, none⟩) hbl).trans ((show w.rangeAt b (off + k * 32) (bv d) by rw [Nat.mul_comm]; exact hrg) j v hv)
    have hr2 := Lib.hid hB.out.range
    have hdl : Hid ((Tryz.prog.info? 32).map (·.size) = some (bv d).length) := by show _ = _; rw [bv_length, hd1]; exact size35
    have hel : Hid ((Tryz.prog.info? 32).map (·.size) = some (bv E).length) := by show _ = _; rw [bv_length, hE.out.1]; exact size35
    have hc2 := Lib.hid (fun W => r2chain_any E d hE.out.1 hd1 hE.out.2 hd2 W)
    have hE2d : Hid ((Sha.chain E d).length = 32 ∧ ∀ u ∈ Sha.chain E d, u < 256) := ⟨Sha.tagged_length _ _, Sha.tagged_lt _ _⟩
    obtain ⟨E2, hE2⟩ : ∃ E2, Hid (Sha.chain E d = E2) := ⟨_, rfl⟩
    rw [hE2.out] at hE2d hf'
    have hf2 := Lib.hid hf'
    have k0' : (0 : Int) ≤ (k : Int) := by omega
    have k1' : (k : Int) < (n : Int) := by omega
    clear hf' hf hrg hc hd1 hd2 hkl hax
    go_upto_region 5 with fail
    refine wp_region_held_drew (S := fun wz => Below w.heap.size wr wz) (by kernel_rfl) (((Below.refl _ wr).drew : Below w.heap.size wr wr.drew)) (fun hHeld => ?_)
    refine tQ 1 rfl hHeld ?_
    refine tQ 2 rfl hHeld ?_
    refine tQ 3 rfl hHeld ?_
    refine tY 4 rfl b (off + k * 32) (bv d) (fun wz h => fun j v hv => (h.cell (p := ⟨b, _, none⟩) hbl).trans (hr1.out j v hv)) Tryz.underlying32 hdl.out hHeld ?_
    refine tO 0 rfl (fun K hK => ?_)
    refine wp_load_mid 32 _ rfl eb 0 rfl (bv E) _ hr2.out Tryz.underlying32 rfl hel.out ?_
    refine hK.out _ _ hHeld (fun hHeld => ?_)
    clear hK K
    try simp only [Act.put, sA, s0, s1]
    refine tO 5 rfl (fun K hK => ?_)
    go_simp
    go_at_call 135
    refine (hc2.out _).mono ?_
    rintro e W3 ⟨rfl, hb3⟩
    have hb4 : Below wr.heap.size wr W3 := (Below.refl _ wr).drew.trans hb3
    rw [hE2.out]
    refine hK.out _ _ (hb4.mono hbr.out.size) (fun hHeld => ?_)
    clear hK K
    try simp only [Act.put, sA, s0, s1]
    obtain ⟨W4, hQ⟩ := put_dig (x := E2) (hB.out.below hb4 hB.out.lt) hE.out.1 hE2d.out.1
    have hg4 : wr.grownBy W4 (some eb) := ⟨hQ.grown.os.trans hb4.os, hQ.grown.tape.trans hb4.tape, hQ.grown.output.trans hb4.output, Nat.le_trans hb4.size hQ.grown.size, fun q hq hne => (hQ.grown.block q (Nat.lt_of_lt_of_le hq hb4.size) hne).trans (hb4.block q hq)⟩
    have hT4 : Hid (Blk W4 tb 32 (bv (List.replicate 32 0))) := hT.out.grown hg4 (fun e => by cases e; exact absurd heb.out (Nat.lt_irrefl _))
    have hbb4 : Hid (Below w.heap.size w W4) := hbr.out.grown hg4 hbr.out.size (fun r e => by cases e; have := heb.out; have := htb.out; omega)
    have hB4 := Lib.hid hQ.blk
    refine tO 6 rfl (fun K hK => ?_)
    refine wp_store_mid 32 _ _ rfl eb 0 (bv E2).toArray (by rfl) (by rfl) hQ.there hQ.info (by simpa using hQ.one) ?_
    generalize hWq : World.setCells _ _ _ _ = Wa
    obtain rfl : W4 = Wa := by rw [← hWq]; exact hQ.eq
    clear hWq
    refine hK.out _ _ ((Below.refl w.heap.size wr).grown hg4 hbr.out.size (fun r e => by cases e; have := heb.out; have := htb.out; omega)) (fun hHeld => ?_)
    clear hK K
    try simp only [Act.put]
    refine wpAnyH_done (by kernel_rfl) ?_ _
    clear hQ hb3 hb4 hg4
    go_wp2_with fail
    go_roundw
    case rel => exact ⟨k + 1, E2, by omega, by go_num, hE2d, hB4, hT4, hbb4, hf2⟩
    case measure => simp [intOf]; omega
  · obtain rfl : k = n := by omega
    have hf' := hf.out
    rw [List.drop_eq_nil_of_le (by rw [H'.out.len]; exact Nat.le_refl _), List.foldl_nil] at hf'
    obtain ⟨W4, hQ⟩ := put_dig (x := E) hT.out (by simp) hE.out.1
    have hbb4 := Lib.hid (below_grown hbr.out hQ.grown hbr.out.size (Nat.le_of_eq htb.out))
    have hQ' := Lib.hid hQ
    have hel : Hid ((Tryz.prog.info? 32).map (·.size) = some (bv E).length) := by show _ = _; rw [bv_length, hE.out.1]; exact size35
    have hr2 := Lib.hid hB.out.range
    have hend : Hid (X (.returned (.agg (bv E).toArray)) W4) := by rw [hX.out, hf']; exact ⟨rfl, hbb4.out⟩
    clear hQ hf hf' hB hbr
    go_wp2_with (first
     | (refine wpList_load_mid (by rfl) 32 (.tmp 5) (by rfl) eb 0 (by rfl) (bv E) _ hr2.out Tryz.underlying32 (by rfl) hel.out ?_)
      | (refine wpList_store_mid (by rfl) 32 (.tmp 4) (.tmp 23) (by rfl) tb 0 (bv E).toArray (by rfl) (by rfl) hQ'.out.there hQ'.out.info (by simpa using hQ'.out.one) ?_
         generalize hWq : World.setCells _ _ _ _ = Wa
         obtain rfl : W4 = Wa := by rw [← hWq]; exact hQ'.out.eq
         clear hWq))
    exact bodyPost_ret (results_cell_row rfl _ _ tb 32 (bv E).toArray (0, 0) _ rfl hQ'.out.blk Tryz.underlying32 rfl (by rw [List.size_toArray]; exact hel.out)) rfl hend.out
end Go.Proofs.YtnonfdcbnkdmcaaGreatDoor
namespace Go.Proofs.YtnonfdcbnkdmcaaGreatDoor
open Go.RowKit Go.Mem
open Go.Sto (Ent Lg St)
end Go.Proofs.YtnonfdcbnkdmcaaGreatDoor

