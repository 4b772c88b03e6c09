/- store.Digest, store.Chain -/
import Derived.Test.YtnonfdcbnkdmcaaGreatDoorTag
namespace Go.Proofs.YtnonfdcbnkdmcaaGreatDoor
open Go.RowKit Go.Mem

def entryD (kind : Int) (data : List Nat) : List Nat := Sha.tagged [101, 110, 116, 114, 121] ([(kind % 256).toNat] ++ data)
def logD (folder : Int) : List Nat := Sha.tagged [108, 111, 103] [(folder % 256).toNat]
def chainD (folder : Int) (ds : List (List Nat)) : List Nat := ds.foldl Sha.chain (logD folder)

theorem one_bs {W : World} {g : Nat} {k : Int} (H : Blk W g 5 [.int .u8 (k % 256)]) : BS W (some ⟨g, 0, none⟩) 1 1 [(k % 256).toNat] := by
 have h : [Value.int .u8 (k % 256)] = bv [(k % 256).toNat] := by
  show _ = [Value.int .u8 _]
  rw [Int.toNat_of_nonneg (by omega)]
 rw [h] at H
 exact Blk.bs (pre := []) (post := []) (l := [(k % 256).toNat]) (c := 1) (by simpa using H) (by simp) (by omega) (by simp; omega)

set_option maxRecDepth 20000 in
set_option maxHeartbeats 2000000 in
theorem digest_any (kind : Int) (_hk : -9223372036854775808 ≤ kind ∧ kind ≤ 9223372036854775807) (a : Option Addr) (n c : Nat) (l : List Nat) (w : World) (HT : Tabs w) (H : BW w a n c l) (hn : n ≤ 140737488354000) :
 Calls Tryz.prog 71 #[.int .i64 kind, .slice a n c] w (DigPost (entryD kind l) w) := by
 have HT' := Lib.hid HT; have H' := Lib.hid H
 clear HT H
 obtain ⟨k0, k1⟩ := _hk
 obtain ⟨tb, htb⟩ : ∃ tb, Hid (w.heap.size = tb) := ⟨_, rfl⟩
 go_enter Tryz.func71, Tryz.ntmps71
 go_wp2_with fail
 rw [htb.out]
 obtain ⟨W, hW⟩ : ∃ W, W = (w.alloc (.cells (bv (List.replicate 32 0)).toArray 32)).alloc (.cells #[.int .u8 (kind % 256)] 5) := ⟨_, rfl⟩
 have hD : Hid (Blk W tb 32 (bv (List.replicate 32 0))) := by rw [hW, ← htb.out]; exact (Blk.new w _ _).alloc _
 have hws : W.heap.size = tb + 1 + 1 := by rw [hW, ← htb.out]; simp
 have hb : Hid (Below w.heap.size w W) := by rw [hW]; exact ((Below.refl _ w).alloc (Nat.le_refl _) _).alloc (by simp) _
 have hk : Blk W (tb + 1) 5 [.int .u8 (kind % 256)] := by
  have := Blk.new (w.alloc (.cells (bv (List.replicate 32 0)).toArray 32)) 5 [.int .u8 (kind % 256)]
  rw [show (w.alloc (.cells (bv (List.replicate 32 0)).toArray 32)).heap.size = tb + 1 by rw [← htb.out]; simp] at this
  rw [hW]; exact this
 have hk1 := Lib.hid (one_bs hk)
 have hS := Lib.hid (H'.out.below hb.out)
 rw [← hws]
 show Calls _ _ _ (World.alloc ((w.alloc (.cells (bv (List.replicate 32 0)).toArray 32)).alloc (.cells #[.int .u8 (kind % 256)] 5)) _) _
 rw [← hW]
 have hed : Hid (Sha.tagged (octets ⟨#[101, 110, 116, 114, 121]⟩) ([(kind % 256).toNat] ++ l) = entryD kind l) := rfl
 clear hW hws hk
 refine (concat2w (bw_of hk1.out) hS.out (by omega) _).mono ?_
 rintro e W6 ⟨a6, c6, rfl, hB6, hb6⟩
 have hb7 := Lib.hid (hb.out.trans (hb6.mono hb.out.size))
 have hD7 := Lib.hid (hD.out.below hb6 hD.out.lt)
 have hBh := Lib.hid hB6
 clear hB6 hb6 hb hD hS hk1
 go_wp2_with fail
 refine (tagged_any ⟨#[101, 110, 116, 114, 121]⟩ (by decide) _ _ _ _ W6 (HT'.out.below hb7.out) hBh.out (by omega)).mono ?_
 rintro e W8 ⟨rfl, hb8⟩
 have hb8' := hb7.out.trans (hb8.mono hb7.out.size)
 have hD8 := hD7.out.below hb8 hD7.out.lt
 rw [hed.out]
 have hl0 : (bv (entryD kind l)).length = 32 := by rw [bv_length]; exact Sha.tagged_length _ _
 have hi32 : (Tryz.prog.info? 32).map (·.size) = some (bv (entryD kind l)).length := by rw [hl0]; exact size35
 obtain ⟨_, hD9, hG9⟩ := run_store_blk (P := Tryz.prog) (ty := 32) hD8 (vs := bv (entryD kind l)) (by rw [hl0, bv_length, List.length_replicate]) hi32 (bv_one _)
 have hth : W8.there tb 0 (bv (entryD kind l)).length := by rw [hl0]; exact hD8.there
 have hpost : Hid (DigPost (entryD kind l) w (.returned (.agg (bv (entryD kind l)).toArray)) (W8.setCells tb 0 (bv (entryD kind l)))) :=
  ⟨rfl, below_grown hb8' hG9 hb8'.size (Nat.le_of_eq htb.out)⟩
 have hone := Lib.hid (bv_one (entryD kind l))
 have hth' := Lib.hid hth; have hi32' := Lib.hid hi32; have hD9' := Lib.hid hD9
 clear hG9 hD9 hb8 hb8' hl0 hth hi32 hD8 hD7 hBh hb7 hed
 generalize bv (entryD kind l) = RES at *
 go_wp2_with (first
  | (refine wpList_store_mid (by rfl) 32 (.tmp 4) (.tmp 11) (by rfl) tb 0 RES.toArray (by rfl) (by rfl) (by rw [List.size_toArray]; exact hth'.out) (by rw [List.size_toArray]; exact hi32'.out) (by simpa using hone.out) ?_))
 exact bodyPost_ret (results_cell_row rfl _ _ tb 32 RES.toArray (0, 0) _ rfl hD9'.out Tryz.underlying32 rfl (by rw [List.size_toArray]; exact hi32'.out)) rfl hpost.out

structure DS (w : World) (a : Option Addr) (n c : Nat) (l : List (List Nat)) : Prop where
 len : l.length = n
 le : n ≤ c
 max : c ≤ 9223372036854775807
 nil : a = none → n = 0
 cells : 0 < n → ∀ ad, a = some ad → ∃ b off, ad = ⟨b, off, none⟩ ∧ b < w.heap.size ∧ ∀ (i : Nat) x, l[i]? = some x → w.rangeAt b (off + 32 * i) (bv x)
 ok : ∀ x ∈ l, x.length = 32 ∧ ∀ u ∈ x, u < 256
theorem DS.below {w w' : World} {a : Option Addr} {n c : Nat} {l : List (List Nat)} (h : DS w a n c l) (hb : Below w.heap.size w w') : DS w' a n c l :=
 ⟨h.len, h.le, h.max, h.nil, fun hn ad e => by
  obtain ⟨b, off, rfl, hlt, hx⟩ := h.cells hn ad e
  exact ⟨b, off, rfl, Nat.lt_of_lt_of_le hlt hb.size, fun i x hi j v hv => (hb.cell (p := ⟨b, _, none⟩) hlt).trans (hx i x hi j v hv)⟩, h.ok⟩

structure PutD (W W9 : World) (tb : Nat) (RES : List Value) : Prop where
 there : W.there tb 0 RES.toArray.size
 info : (Tryz.prog.info? 32).map (·.size) = some RES.toArray.size
 one : ∀ u ∈ RES, u.oneCell' = true
 eq : W9 = W.setCells tb 0 RES
 blk : Blk W9 tb 32 RES
 grown : W.grownBy W9 (some tb)
theorem put_dig {W : World} {tb : Nat} {x y : List Nat} (hD : Blk W tb 32 (bv y)) (hy : y.length = 32) (hx : x.length = 32) : ∃ W9, PutD W W9 tb (bv x) := by
 have hl0 : (bv x).length = 32 := by rw [bv_length, hx]
 have hi32 : (Tryz.prog.info? 32).map (·.size) = some (bv x).length := by rw [hl0]; exact size35
 obtain ⟨_, h1, h2⟩ := run_store_blk (P := Tryz.prog) (ty := 32) hD (vs := bv x) (by rw [hl0, bv_length, hy]) hi32 (bv_one _)
 refine ⟨_, ?_, by rw [List.size_toArray]; exact hi32, bv_one x, rfl, h1, h2⟩
 rw [List.size_toArray, hl0]
 have := hD.there
 rwa [bv_length, hy] at this

set_option maxRecDepth 20000 in
set_option maxHeartbeats 2000000 in
theorem storeChain_any (folder : Int) (_hk : -9223372036854775808 ≤ folder ∧ folder ≤ 9223372036854775807) (a : Option Addr) (n c : Nat) (l : List (List Nat)) (w : World) (HT : Tabs w) (H : DS w a n c l) :
 Calls Tryz.prog 80 #[.int .i64 folder, .slice a n c] w (DigPost (chainD folder l) w) := by
 have n63 : (n : Int) ≤ 9223372036854775807 := by have := H.le; have := H.max; omega
 have HT' := Lib.hid HT; have H' := Lib.hid H
 clear HT H
 obtain ⟨k0, k1⟩ := _hk
 obtain ⟨tb, htb⟩ : ∃ tb, Hid (w.heap.size = tb) := ⟨_, rfl⟩
 go_enter Tryz.func80, Tryz.ntmps80
 go_wp2_with fail
 rw [htb.out]
 obtain ⟨W, hW⟩ : ∃ W, W = (w.alloc (.cells (bv (List.replicate 32 0)).toArray 32)).alloc (.cells #[.int .u8 (folder % 256)] 5) := ⟨_, rfl⟩
 have hD : Hid (Blk W tb 32 (bv (List.replicate 32 0))) := by rw [hW, ← htb.out]; exact (Blk.new w _ _).alloc _
 have hb : Hid (Below w.heap.size w W) := by rw [hW]; exact ((Below.refl _ w).alloc (Nat.le_refl _) _).alloc (by simp) _
 have hk : Blk W (tb + 1) 5 [.int .u8 (folder % 256)] := by
  have := Blk.new (w.alloc (.cells (bv (List.replicate 32 0)).toArray 32)) 5 [.int .u8 (folder % 256)]
  rw [show (w.alloc (.cells (bv (List.replicate 32 0)).toArray 32)).heap.size = tb + 1 by rw [← htb.out]; simp] at this
  rw [hW]; exact this
 have hk1 := Lib.hid (one_bs hk)
 show Calls _ _ _ ((w.alloc (.cells (bv (List.replicate 32 0)).toArray 32)).alloc (.cells #[.int .u8 (folder % 256)] 5)) _
 rw [← hW]
 have hed : Hid (Sha.tagged (octets ⟨#[108, 111, 103]⟩) [(folder % 256).toNat] = logD folder) := rfl
 clear hW hk
 refine (tagged_any ⟨#[108, 111, 103]⟩ (by decide) _ _ _ _ W (HT'.out.below hb.out) hk1.out (by omega)).mono ?_
 rintro e W8 ⟨rfl, hb8⟩
 have hb8' := Lib.hid (hb.out.trans (hb8.mono hb.out.size))
 have hD8 := Lib.hid (hD.out.below hb8 hD.out.lt)
 clear hb hD hk1 hb8
 rw [hed.out]
 have hll : (logD folder).length = 32 := Sha.tagged_length _ _
 have hlt : ∀ u ∈ logD folder, u < 256 := Sha.tagged_lt _ _
 obtain ⟨W9, hP⟩ := put_dig (x := logD folder) hD8.out (by simp) hll
 have hfold : Hid (chainD folder l = (l.drop 0).foldl Sha.chain (logD folder)) := rfl
 generalize logD folder = E0 at *
 obtain ⟨RES, hRES⟩ : ∃ R, Hid (bv E0 = R) := ⟨_, rfl⟩
 have hP' := Lib.hid hP
 rw [hRES.out] at hP' ⊢
 clear hP hed
 go_wp2_with (first
  | (refine wpList_store_mid (by rfl) 32 (.tmp 4) (.tmp 10) (by rfl) tb 0 RES.toArray (by rfl) (by rfl) hP'.out.there hP'.out.info (by simpa using hP'.out.one) ?_
     generalize hW9 : World.setCells _ _ _ _ = Wa
     obtain rfl : W9 = Wa := by rw [← hW9]; exact hP'.out.eq
     clear hW9))
 have hB9 : Hid (Blk W9 tb 32 (bv E0)) := by have := hP'.out.blk; rw [← hRES.out] at this; exact this
 have hb9 : Hid (Below w.heap.size w W9) := below_grown hb8'.out hP'.out.grown hb8'.out.size (Nat.le_of_eq htb.out)
 have hi32 : Hid ((Tryz.prog.info? 32).map (·.size) = some 32) := size35
 clear hP' hRES hb8' hD8
 go_loopw [13] (fun i wr => ∃ (k : Nat) (E : List Nat), k ≤ n ∧ i = .int .i64 k ∧ Hid (E.length = 32 ∧ ∀ u ∈ E, u < 256) ∧ Hid (Blk wr tb 32 (bv E)) ∧ Hid (Below w.heap.size w wr) ∧ Hid (chainD folder l = (l.drop k).foldl Sha.chain E)) (fun i _ => n - (intOf i).toNat)
 case atStart => exact ⟨0, E0, Nat.zero_le _, rfl, ⟨hll, hlt⟩, hB9, hb9, hfold⟩
 case round =>
  obtain ⟨k, E, hk, rfl, hE, hB, hbr, hf⟩ := hrel
  clear hfold hB9 hb9 hlt hll
  by_cases hlt : k < n
  · have hkl : k < l.length := by rw [H'.out.len]; exact hlt
    have hS := H'.out.below hbr.out
    have hax : a ≠ none := fun e => by have := H'.out.nil e; omega
    obtain ⟨ad, rfl⟩ := Option.ne_none_iff_exists'.1 hax
    obtain ⟨b, off, rfl, hbl, hc⟩ := hS.cells (by omega) _ rfl
    have hrg := hc k l[k] (List.getElem?_eq_getElem hkl)
    obtain ⟨hd1, hd2⟩ := hS.ok l[k] (List.getElem_mem hkl)
    have hf' := hf.out
    rw [List.drop_eq_getElem_cons hkl, List.foldl_cons] at hf'
    generalize l[k] = d at *
    obtain ⟨W2, hP⟩ := put_dig (x := d) (Blk.new wr 32 (bv (List.replicate 32 0))) (by simp) hd1
    have hbd2 : Hid (Blk W2 tb 32 (bv E)) := (hB.out.alloc _).grown hP.grown (fun e => by have := hB.out.lt; cases e; omega)
    have hbb2 : Hid (Below w.heap.size w W2) := below_grown (hbr.out.alloc hbr.out.size _) hP.grown (Nat.le_trans hbr.out.size (by simp)) hbr.out.size
    have hr1 := Lib.hid (show wr.rangeAt b (off + k * 32) (bv d) by rw [Nat.mul_comm]; exact hrg)
    have hr2 := Lib.hid hbd2.out.range
    have hr3 := Lib.hid hP.blk.range
    have hP' := Lib.hid hP
    have hdl : Hid ((Tryz.prog.info? 32).map (·.size) = some (bv d).length) := by show _ = _; rw [bv_length, hd1]; exact size35
    have hel : Hid ((Tryz.prog.info? 32).map (·.size) = some (bv E).length) := by show _ = _; rw [bv_length, hE.out.1]; exact size35
    have hc2 := Lib.hid (chain_any E d W2 (HT'.out.below hbb2.out) hE.out.1 hd1 hE.out.2 hd2)
    have hf2 := Lib.hid hf'
    have k0' : (0 : Int) ≤ (k : Int) := by omega
    have k1' : (k : Int) < (n : Int) := by omega
    clear hP hf' hf hrg hc hS hB hbr hd1 hd2 hE hkl hax hbl
    go_wp2_with (first
     | (refine wpList_load_mid (by rfl) 32 (.tmp 15) (by rfl) b (off + k * 32) (by rfl) (bv d) _ hr1.out Tryz.underlying32 (by rfl) hdl.out ?_)
      | (refine wpList_store_mid (by rfl) 32 (.tmp 6) (.tmp 16) (by rfl) wr.heap.size 0 (bv d).toArray (by rfl) (by rfl) hP'.out.there hP'.out.info (by simpa using hP'.out.one) ?_
         generalize hWq : World.setCells _ _ _ _ = Wa
         obtain rfl : W2 = Wa := by rw [← hWq]; exact hP'.out.eq
         clear hWq)
      | (refine wpList_load_mid (by rfl) 32 (.tmp 4) (by rfl) tb 0 (by rfl) (bv E) _ hr2.out Tryz.underlying32 (by rfl) hel.out ?_)
      | (refine wpList_load_mid (by rfl) 32 (.tmp 6) (by rfl) wr.heap.size 0 (by rfl) (bv d) _ hr3.out Tryz.underlying32 (by rfl) hdl.out ?_))
    refine hc2.out.mono ?_
    rintro e W3 ⟨rfl, hb3⟩
    have hcl : (Sha.chain E d).length = 32 := Sha.tagged_length _ _
    have hclt : ∀ u ∈ Sha.chain E d, u < 256 := Sha.tagged_lt _ _
    have hbb3 := hbb2.out.trans (hb3.mono hbb2.out.size)
    have hel2 : (bv E).length = 32 := by
     have := hel.out.symm.trans size35
     exact Option.some.inj this
    obtain ⟨W4, hQ⟩ := put_dig (x := Sha.chain E d) (hbd2.out.below hb3 hbd2.out.lt) (by rwa [bv_length] at hel2) hcl
    have hbb4 := Lib.hid (below_grown hbb3 hQ.grown hbb3.size (Nat.le_of_eq htb.out))
    have hE2 : Hid ((Sha.chain E d).length = 32 ∧ ∀ u ∈ Sha.chain E d, u < 256) := ⟨hcl, hclt⟩
    have hQ' := Lib.hid hQ
    clear hQ hbb3 hb3 hcl hclt hel2 hc2 hbb2 hbd2 hP' hr1 hr2 hr3 hdl hel
    generalize Sha.chain E d = E2 at *
    go_wp2_with (first
     | (refine wpList_store_mid (by rfl) 32 (.tmp 4) (.tmp 19) (by rfl) tb 0 (bv E2).toArray (by rfl) (by rfl) hQ'.out.there hQ'.out.info (by simpa using hQ'.out.one) ?_
        generalize hWq : World.setCells _ _ _ _ = Wa
        obtain rfl : W4 = Wa := by rw [← hWq]; exact hQ'.out.eq
        clear hWq))
    go_roundw
    case rel => exact ⟨k + 1, E2, by omega, by go_num, hE2, hQ'.out.blk, hbb4, hf2⟩
    case measure => simp [intOf]; omega
  · obtain rfl : k = n := by omega
    have hf' := hf.out
    rw [List.drop_eq_nil_of_le (by rw [H'.out.len]; exact Nat.le_refl _), List.foldl_nil] at hf'
    obtain ⟨W4, hQ⟩ := put_dig (x := E) hB.out hE.out.1 hE.out.1
    have hbb4 := Lib.hid (below_grown hbr.out hQ.grown hbr.out.size (Nat.le_of_eq htb.out))
    have hQ' := Lib.hid hQ
    have hel : Hid ((Tryz.prog.info? 32).map (·.size) = some (bv E).length) := by show _ = _; rw [bv_length, hE.out.1]; exact size35
    have hr2 := Lib.hid hB.out.range
    have hf2 := Lib.hid hf'
    clear hQ hf hf' hB hbr
    go_wp2_with (first
     | (refine wpList_load_mid (by rfl) 32 (.tmp 4) (by rfl) tb 0 (by rfl) (bv E) _ hr2.out Tryz.underlying32 (by rfl) hel.out ?_)
      | (refine wpList_store_mid (by rfl) 32 (.tmp 4) (.tmp 21) (by rfl) tb 0 (bv E).toArray (by rfl) (by rfl) hQ'.out.there hQ'.out.info (by simpa using hQ'.out.one) ?_
         generalize hWq : World.setCells _ _ _ _ = Wa
         obtain rfl : W4 = Wa := by rw [← hWq]; exact hQ'.out.eq
         clear hWq))
    exact bodyPost_ret (results_cell_row rfl _ _ tb 32 (bv E).toArray (0, 0) _ rfl hQ'.out.blk Tryz.underlying32 rfl (by rw [List.size_toArray]; exact hel.out)) rfl ⟨by rw [hf2.out], hbb4.out⟩
end Go.Proofs.YtnonfdcbnkdmcaaGreatDoor
