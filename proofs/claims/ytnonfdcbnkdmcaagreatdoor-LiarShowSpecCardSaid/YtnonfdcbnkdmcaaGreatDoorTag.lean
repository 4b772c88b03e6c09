/- digest.Tagged, digest.Chain -/
import Derived.Test.YtnonfdcbnkdmcaaGreatDoorSum
import Derived.Test.YtnonfdcbnkdmcaaGreatDoorCat
import Derived.Laws.IdiomStrings
namespace Go.Proofs.YtnonfdcbnkdmcaaGreatDoor
open Go.RowKit Go.Mem

def octets (s : ByteArray) : List Nat := s.data.toList.map (·.toNat)
theorem octets_length (s : ByteArray) : (octets s).length = s.size := by simp [octets]

theorem str_bytes (W : World) (s : ByteArray) (hs : s.size ≤ 140737488355328) : ∃ cap W', (convert 9 71 (.string s)).run Tryz.prog W = .ok (.slice (some ⟨W.heap.size, 0, none⟩) s.size cap) W' ∧
 BS W' (some ⟨W.heap.size, 0, none⟩) s.size cap (octets s) ∧ Below W.heap.size W W' := by
 have hge := grownCap_ge W s.size 0 5
 have hle := grownCap_le_maxLen W s.size 0 5 (by unfold maxLen; omega)
 refine ⟨_, _, run_bytes_of_string W 9 71 5 s Tryz.underlying9 Tryz.underlying71 Tryz.underlying5, ?_, (Below.refl _ W).drew.alloc (Nat.le_refl _) _⟩
 refine ⟨octets_length s, hge, ?_, fun e => by (cases e), fun ad e => ?_, fun x hx => ?_⟩
 · unfold maxLen at hle; omega
 · cases e
   refine ⟨_, _, rfl, by simp, fun i x hx => ?_⟩
   have hg : (W.drew.alloc (.cells (bytesRow s (grownCap W s.size 0 5)) 5 ((bytesRow s (grownCap W s.size 0 5)).size, (bytesRow s (grownCap W s.size 0 5)).size + 1))).heap[W.heap.size]? = _ := heap_alloc_new W.drew _
   rw [Nat.zero_add, cell_of_row _ _ _ _ _ _ hg]
   have hi := (List.getElem?_eq_some_iff.1 hx).1
   rw [octets_length] at hi
   have hi' : i < s.data.size := hi
   unfold bytesRow
   rw [Array.getElem?_append_left (by simpa using hi')]
   simp only [octets, List.getElem?_map, Array.getElem?_toList] at hx
   simp only [Array.getElem?_map]
   cases hq : s.data[i]? with
   | none => rw [hq] at hx; cases hx
   | some b => rw [hq] at hx; cases hx; rfl
 · simp only [octets, List.mem_map] at hx
   obtain ⟨b, _, rfl⟩ := hx
   exact b.toNat_lt

theorem BS.own {w : World} {B : Nat} {v : Value} {n : Nat} {l : List Nat} (h : w.ownsRow B 5 1 v n (bv l)) (hl : ∀ x ∈ l, x < 256) : ∃ a c, v = .slice a n c ∧ BS w a n c l := by
 have h0 : l.length = n := by have := h.1; rw [bv_length] at this; omega
 rcases h.2 with ⟨rfl, rfl⟩ | ⟨g, cap, cur, rfl, hbg, hg, hnc, hcm, hcs, htake⟩
 · exact ⟨none, 0, rfl, h0, Nat.le_refl _, by omega, fun _ => ⟨rfl, rfl⟩, fun ad e => by (cases e), hl⟩
 · refine ⟨_, cap, rfl, h0, hnc, by unfold maxLen at hcm; omega, fun e => by (cases e), fun ad e => ?_, hl⟩
   cases e
   refine ⟨g, 0, rfl, (Array.getElem?_eq_some_iff.1 hg).1, fun i x hx => ?_⟩
   have := h.cells (g := g) rfl i (.int .u8 (x : Int)) (bv_get hx)
   rw [Addr.add_lit] at this
   exact this

theorem slice_all (W : World) (db : Nat) :
 (Instr.sliceAt 32 (.pointer (some ⟨db, 0, none⟩)) none none none).run Tryz.prog W = .ok (.slice (some ⟨db, 0, none⟩) 32 32) W := by kernel_rfl

def CatPost (n : Nat) (l : List Nat) (w : World) (e : Ending) (w' : World) : Prop := ∃ a c, e = .returned (.slice a n c) ∧ BS w' a n c l ∧ Below w.heap.size w w'

theorem concat2w {W : World} {a1 a2 : Option Addr} {n1 c1 n2 c2 : Nat} {l1 l2 : List Nat} (h1 : BW W a1 n1 c1 l1) (h2 : BW W a2 n2 c2 l2) (hn : n1 + n2 ≤ 140737488355328) (ty : TypeId) :
 Calls Tryz.prog 110 #[.slice (some ⟨W.heap.size, 0, none⟩) 2 2] (W.alloc (.cells #[.slice a1 n1 c1, .slice a2 n2 c2] ty)) (CatPost (n1 + n2) (l1 ++ l2) W) := by
 have hb := (Below.refl W.heap.size W).alloc (Nat.le_refl _) (.cells #[.slice a1 n1 c1, .slice a2 n2 c2] ty)
 have ht : tot [(a1, n1, c1, l1), (a2, n2, c2, l2)] = n1 + n2 := by simp [tot]
 have hf : flat [(a1, n1, c1, l1), (a2, n2, c2, l2)] = l1 ++ l2 := by simp [flat]
 have hc := concat_any W.heap.size ty [(a1, n1, c1, l1), (a2, n2, c2, l2)] 2 2 (W.alloc (.cells #[.slice a1 n1 c1, .slice a2 n2 c2] ty)) rfl (by omega) (by omega) (Blk.new W ty [.slice a1 n1 c1, .slice a2 n2 c2])
  (fun s hs => by
    simp only [List.mem_cons, List.not_mem_nil, or_false] at hs
    rcases hs with rfl | rfl
    · exact h1.below hb
    · exact h2.below hb) (by rw [ht]; exact hn)
 rw [ht, hf] at hc
 refine hc.mono ?_
 rintro e w' ⟨v, rfl, ho, hb2⟩
 obtain ⟨a, c, rfl, hB⟩ := BS.own ho (fun x hx => by
  rcases List.mem_append.1 hx with h | h
  · exact h1.lt x h
  · exact h2.lt x h)
 exact ⟨a, c, rfl, hB, hb.trans (hb2.mono hb.size)⟩
theorem concat2 {W : World} {a1 a2 : Option Addr} {n1 c1 n2 c2 : Nat} {l1 l2 : List Nat} (h1 : BS W a1 n1 c1 l1) (h2 : BS W a2 n2 c2 l2) (hn : n1 + n2 ≤ 140737488355328) (ty : TypeId) :
 Calls Tryz.prog 110 #[.slice (some ⟨W.heap.size, 0, none⟩) 2 2] (W.alloc (.cells #[.slice a1 n1 c1, .slice a2 n2 c2] ty)) (CatPost (n1 + n2) (l1 ++ l2) W) := concat2w (bw_of h1) (bw_of h2) hn ty

set_option maxRecDepth 20000 in
set_option maxHeartbeats 2000000 in
theorem tagged_any (tag : ByteArray) (htg : tag.size ≤ 140737488355328) (a : Option Addr) (n c : Nat) (l : List Nat) (w : World) (HT : Tabs w) (H : BS w a n c l) (hn : n ≤ 140737488355000) :
 Calls Tryz.prog 109 #[.string tag, .slice a n c] w (DigPost (Sha.tagged (octets tag) l) w) := by
 have HT' := Lib.hid HT; have H' := Lib.hid H
 clear HT H
 have htb := Lib.hid (rfl : w.heap.size = w.heap.size)
 obtain ⟨tb, htb'⟩ : ∃ tb, Hid (w.heap.size = tb) := ⟨_, htb⟩
 go_enter Tryz.func109, Tryz.ntmps109
 go_wp2_with fail
 rw [htb'.out]
 generalize hW1 : World.alloc w _ = W1
 have hD1 : Blk W1 tb 32 (bv (List.replicate 32 0)) := by rw [← hW1, ← htb'.out]; exact Blk.new w _ _
 have hb1 : Below w.heap.size w W1 := by rw [← hW1]; exact (Below.refl _ w).alloc (Nat.le_refl _) _
 clear hW1
 obtain ⟨cap, W2, hr, hB2, hbl2⟩ := str_bytes W1 tag htg
 rw [hr]
 have hsb := hD1.lt
 have hT2 : Tabs W2 := (HT'.out.below hb1).below hbl2
 have hb2 : Below w.heap.size w W2 := hb1.trans (hbl2.mono hb1.size)
 have hD2 := hD1.below hbl2 hsb
 have hS2 := H'.out.below hb2
 generalize W1.heap.size = sb at *
 go_simp
 go_wp2_with fail
 refine (sum_any _ _ _ _ W2 hB2 hT2 (by omega)).mono ?_
 rintro e W3 ⟨rfl, hb3⟩
 have hb3' := hb2.trans (hb3.mono hb2.size)
 have hD3 := Lib.hid (hD2.below hb3 hD2.lt)
 clear hb3 hb2 hb1 hT2 hS2 hD2 hB2 hbl2 hr hD1 hsb
 have hA3 : Blk (W3.alloc (.cells (bv (List.replicate 32 0)).toArray 32)) W3.heap.size 32 (bv (List.replicate 32 0)) := Blk.new W3 _ _
 have hl0 : (bv (Sha.sum (octets tag))).length = 32 := by rw [bv_length, Sha.sum_length]
 have hi32 : (Tryz.prog.info? 32).map (·.size) = some (bv (Sha.sum (octets tag))).length := by rw [hl0]; exact size35
 obtain ⟨_, hD4, hG4⟩ := run_store_blk (P := Tryz.prog) (ty := 32) hA3 (vs := bv (Sha.sum (octets tag))) (by rw [hl0, bv_length, List.length_replicate]) hi32 (bv_one _)
 have hth : (W3.alloc (.cells (bv (List.replicate 32 0)).toArray 32)).there W3.heap.size 0 (bv (Sha.sum (octets tag))).length := by rw [hl0]; exact hA3.there
 have hsl := fun W => slice_all W W3.heap.size
 have hb4 := below_grown (hb3'.alloc hb3'.size (.cells (bv (List.replicate 32 0)).toArray 32)) hG4 (Nat.le_trans hb3'.size (Nat.le_of_lt hA3.lt)) hb3'.size
 have hD4' := Lib.hid hD4; have hb4' := Lib.hid hb4
 have hone := Lib.hid (bv_one (Sha.sum (octets tag)))
 have hth' := Lib.hid hth; have hi32' := Lib.hid hi32
 have hD34 := Lib.hid ((hD3.out.alloc (.cells (bv (List.replicate 32 0)).toArray 32)).grown hG4 (fun e => by have := hD3.out.lt; cases e; omega))
 clear hG4 hD4 hb4 hb3' hl0 hth hi32 hA3 hD3
 obtain ⟨OUT, hOUT⟩ : ∃ O, Hid (bv (Sha.sum (octets tag)) = O) := ⟨_, rfl⟩
 rw [hOUT.out] at hD4' hb4' hone hth' hi32' hD34 ⊢
 go_wp2_with (first
  | (refine wpList_store_mid (by rfl) 32 (.tmp 5) (.tmp 8) (by rfl) W3.heap.size 0 OUT.toArray (by rfl) (by rfl) (by rw [List.size_toArray]; exact hth'.out) (by rw [List.size_toArray]; exact hi32'.out) (by simpa using hone.out) ?_
     generalize hW4 : World.setCells _ _ _ _ = W4
     have hD5 : Hid (Blk W4 W3.heap.size 32 OUT) := by rw [← hW4]; exact hD4'.out
     have hD6 : Hid (Blk W4 tb 32 (bv (List.replicate 32 0))) := by rw [← hW4]; exact hD34.out
     have hb5 : Hid (Below w.heap.size w W4) := by rw [← hW4]; exact hb4'.out
     clear hW4 hb4' hD4' hD34))
 have hl32 : (Sha.sum (octets tag)).length = 32 := Sha.sum_length _
 have hBo : BS W4 (some ⟨W3.heap.size, 0, none⟩) 32 32 (Sha.sum (octets tag)) := by
  have h5 := hD5.out
  rw [← hOUT.out] at h5
  have := Blk.bs (pre := []) (post := []) (l := Sha.sum (octets tag)) (c := 32) (by simpa using h5) (by omega) (by omega) (Sha.sum_lt _)
  rwa [hl32] at this
 refine (concat2 hBo (H'.out.below hb5.out) (by omega) _).mono ?_
 rintro e W6 ⟨a6, c6, rfl, hB6, hb6⟩
 have hb6' := hb5.out.trans (hb6.mono hb5.out.size)
 have hD7 := Lib.hid (hD6.out.below hb6 hD6.out.lt)
 have hBh := Lib.hid hB6
 have hb7 := Lib.hid hb6'
 clear hB6 hb6 hb6' hBo hD5 hD6 hb5 hl32 hsl hone hth' hi32' hOUT
 go_wp2_with fail
 refine (sum_any _ _ _ _ W6 hBh.out (HT'.out.below hb7.out) (by omega)).mono ?_
 rintro e W8 ⟨rfl, hb8⟩
 have hb8' := hb7.out.trans (hb8.mono hb7.out.size)
 have hD8 := hD7.out.below hb8 hD7.out.lt
 have hs : Sha.sum (Sha.sum (octets tag) ++ l) = Sha.tagged (octets tag) l := rfl
 rw [hs]
 have hl0 : (bv (Sha.tagged (octets tag) l)).length = 32 := by rw [bv_length, Sha.tagged_length]
 have hi32 : (Tryz.prog.info? 32).map (·.size) = some (bv (Sha.tagged (octets tag) l)).length := by rw [hl0]; exact size35
 obtain ⟨_, hD9, hG9⟩ := run_store_blk (P := Tryz.prog) (ty := 32) hD8 (vs := bv (Sha.tagged (octets tag) l)) (by rw [hl0, bv_length, List.length_replicate]) hi32 (bv_one _)
 have hth : W8.there tb 0 (bv (Sha.tagged (octets tag) l)).length := by rw [hl0]; exact hD8.there
 have hpost : Hid (DigPost (Sha.tagged (octets tag) l) w (.returned (.agg (bv (Sha.tagged (octets tag) l)).toArray)) (W8.setCells tb 0 (bv (Sha.tagged (octets tag) l)))) :=
  ⟨rfl, below_grown hb8' hG9 hb8'.size (Nat.le_of_eq htb'.out)⟩
 have hone := Lib.hid (bv_one (Sha.tagged (octets tag) l))
 have hth' := Lib.hid hth; have hi32' := Lib.hid hi32; have hD9' := Lib.hid hD9
 clear hG9 hD9 hb8 hb8' hl0 hth hi32 hD8 hs hD7 hBh hb7
 generalize bv (Sha.tagged (octets tag) l) = RES at *
 go_wp2_with (first
  | (refine wpList_store_mid (by rfl) 32 (.tmp 4) (.tmp 13) (by rfl) tb 0 RES.toArray (by rfl) (by rfl) (by rw [List.size_toArray]; exact hth'.out) (by rw [List.size_toArray]; exact hi32'.out) (by simpa using hone.out) ?_))
 exact bodyPost_ret (results_cell_row rfl _ _ tb 32 RES.toArray (0, 0) _ rfl hD9'.out Tryz.underlying32 rfl (by rw [List.size_toArray]; exact hi32'.out)) rfl hpost.out

set_option maxRecDepth 20000 in
set_option maxHeartbeats 2000000 in
theorem chain_any (x y : List Nat) (w : World) (HT : Tabs w) (hx : x.length = 32) (hy : y.length = 32) (hxl : ∀ u ∈ x, u < 256) (hyl : ∀ u ∈ y, u < 256) :
 Calls Tryz.prog 124 #[.agg (bv x).toArray, .agg (bv y).toArray] w (DigPost (Sha.chain x y) w) := by
 have HT' := Lib.hid HT
 clear HT
 obtain ⟨xb, hxb⟩ : ∃ xb, Hid (w.heap.size = xb) := ⟨_, rfl⟩
 go_enter Tryz.func124, Tryz.ntmps124
 go_wp2_with fail
 rw [hxb.out]
 generalize hW : World.alloc _ _ = W
 have hX : Hid (Blk W xb 32 (bv x)) := by rw [← hW, ← hxb.out]; exact ((Blk.new w _ _).alloc _).alloc _
 have hY : Hid (Blk W (xb + 1) 32 (bv y)) := by
  have := (Blk.new (w.alloc (.cells (bv x).toArray 32)) 32 (bv y))
  rw [show (w.alloc (.cells (bv x).toArray 32)).heap.size = xb + 1 by rw [← hxb.out]; simp] at this
  rw [← hW]; exact this.alloc _
 have hD : Hid (Blk W (xb + 1 + 1) 32 (bv (List.replicate 32 0))) := by
  have := (Blk.new ((w.alloc (.cells (bv x).toArray 32)).alloc (.cells (bv y).toArray 32)) 32 (bv (List.replicate 32 0)))
  rw [show ((w.alloc (.cells (bv x).toArray 32)).alloc (.cells (bv y).toArray 32)).heap.size = xb + 1 + 1 by rw [← hxb.out]; simp] at this
  rw [← hW]; exact this
 have hb : Hid (Below w.heap.size w W) := by rw [← hW]; exact (((Below.refl _ w).alloc (Nat.le_refl _) _).alloc (by simp) _).alloc (by simp; omega) _
 clear hW
 have s1 := fun W => slice_all W xb
 have s2 := fun W => slice_all W (xb + 1)
 go_still_tail 2, (by kernel_rfl)
 repeat still_step
 change wpList _ _ _ _ _ W.drew
 generalize hwd : W.drew = Wd
 have hX1 : Hid (Blk Wd xb 32 (bv x)) := by rw [← hwd]; exact hX
 have hY1 : Hid (Blk Wd (xb + 1) 32 (bv y)) := by rw [← hwd]; exact hY
 have hD1 : Hid (Blk Wd (xb + 1 + 1) 32 (bv (List.replicate 32 0))) := by rw [← hwd]; exact hD
 have hb1 : Hid (Below w.heap.size w Wd) := by rw [← hwd]; exact hb.out.drew
 clear hwd hX hY hD hb s1 s2
 have whole : ∀ (b : Nat) (u : List Nat), u.length = 32 → (∀ q ∈ u, q < 256) → Blk Wd b 32 (bv u) → BS Wd (some ⟨b, 0, none⟩) 32 32 u := fun b u hu hq h => by
  have := Blk.bs (pre := []) (post := []) (l := u) (c := 32) (by simpa using h) (by omega) (by omega) hq
  rwa [hu] at this
 have hXs := Lib.hid (whole xb x hx hxl hX1.out)
 have hYs := Lib.hid (whole (xb + 1) y hy hyl hY1.out)
 have hxy : Hid (Sha.tagged (octets ⟨#[99, 104, 97, 105, 110]⟩) (x ++ y) = Sha.chain x y) := rfl
 clear whole hX1 hY1 hx hy hxl hyl
 go_wp2_with fail
 refine (concat2 hXs.out hYs.out (by omega) _).mono ?_
 rintro e W6 ⟨a6, c6, rfl, hB6, hb6⟩
 have hb7 := Lib.hid (hb1.out.trans (hb6.mono hb1.out.size))
 have hD7 := Lib.hid (hD1.out.below hb6 hD1.out.lt)
 have hBh := Lib.hid hB6
 clear hB6 hb6 hb1 hD1 hXs hYs
 go_wp2_with fail
 refine (tagged_any ⟨#[99, 104, 97, 105, 110]⟩ (by decide) _ _ _ _ W6 (HT'.out.below hb7.out) hBh.out (by omega)).mono ?_
 rintro e W8 ⟨rfl, hb8⟩
 have hb8' := hb7.out.trans (hb8.mono hb7.out.size)
 have hD8 := hD7.out.below hb8 hD7.out.lt
 rw [hxy.out]
 have hl0 : (bv (Sha.chain x y)).length = 32 := by rw [bv_length]; exact Sha.tagged_length _ _
 have hi32 : (Tryz.prog.info? 32).map (·.size) = some (bv (Sha.chain x y)).length := by rw [hl0]; exact size35
 obtain ⟨_, hD9, hG9⟩ := run_store_blk (P := Tryz.prog) (ty := 32) hD8 (vs := bv (Sha.chain x y)) (by rw [hl0, bv_length, List.length_replicate]) hi32 (bv_one _)
 have hth : W8.there (xb + 1 + 1) 0 (bv (Sha.chain x y)).length := by rw [hl0]; exact hD8.there
 have hpost : Hid (DigPost (Sha.chain x y) w (.returned (.agg (bv (Sha.chain x y)).toArray)) (W8.setCells (xb + 1 + 1) 0 (bv (Sha.chain x y)))) :=
  ⟨rfl, below_grown hb8' hG9 hb8'.size (by have := hxb.out; omega)⟩
 have hone := Lib.hid (bv_one (Sha.chain x y))
 have hth' := Lib.hid hth; have hi32' := Lib.hid hi32; have hD9' := Lib.hid hD9
 clear hG9 hD9 hb8 hb8' hl0 hth hi32 hD8 hD7 hBh hb7 hxy
 generalize bv (Sha.chain x y) = RES at *
 go_wp2_with (first
  | (refine wpList_store_mid (by rfl) 32 (.tmp 4) (.tmp 9) (by rfl) (xb + 1 + 1) 0 RES.toArray (by rfl) (by rfl) (by rw [List.size_toArray]; exact hth'.out) (by rw [List.size_toArray]; exact hi32'.out) (by simpa using hone.out) ?_))
 exact bodyPost_ret (results_cell_row rfl _ _ (xb + 1 + 1) 32 RES.toArray (0, 0) _ rfl hD9'.out Tryz.underlying32 rfl (by rw [List.size_toArray]; exact hi32'.out)) rfl hpost.out
end Go.Proofs.YtnonfdcbnkdmcaaGreatDoor
