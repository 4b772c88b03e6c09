/- (*directory.input): bytes that a call has gathered: numbers, digests, under (*directory.input).numbers, .digests, .under -/
import Derived.Test.YtlpgjdlkjahdgaaGreatDoorSgn
import Derived.Test.YtlpgjdlkjahdgaaGreatDoorTag
import Derived.Test.YtlpgjdlkjahdgaaGreatDoorDrP
import Derived.Test.YtlpgjdlkjahdgaaGreatDoorShelf
import Derived.Lib.BufferAt
import Derived.Lib.OthersKept
import Derived.Test.YtlpgjdlkjahdgaaGreatDoorEnt
import Derived.Test.YtlpgjdlkjahdgaaGreatDoorRow
import Derived.BigFrame
import Derived.Deep.MidRow
import Derived.StillTailTactics
namespace Go.Proofs.YtlpgjdlkjahdgaaGreatDoor
open Go.RowKit Go.Mem

/-- a buffer that holds bytes. -/
structure IB (B b : Nat) (bs : List Nat) (w : World) : Prop where
  buf : LibA.IsBuffer 208 (fun _ => none) 5 B b 0 (bv bs) w
  lt : ∀ u ∈ bs, u < 256
/-- what a write leaves as it was. -/
structure BF (B b : Nat) (w w' : World) : Prop where
  bel : Below B w w'
  kept : Lib.OthersKept 5 (some b) w w'
section
variable {B b : Nat} {bs : List Nat} {w w' w2 : World}
theorem BF.refl (B b : Nat) (w : World) : BF B b w w := ⟨Below.refl _ _, Lib.OthersKept.refl _ _ _⟩
theorem BF.trans (h : BF B b w w') (k : BF B b w' w2) : BF B b w w2 := ⟨h.bel.trans k.bel, h.kept.trans k.kept⟩
theorem BF.alloc (h : BF B b w w') (hB : B ≤ w'.heap.size) (o : Obj) : BF B b w (w'.alloc o) := ⟨h.bel.alloc hB o, h.kept.alloc o⟩
theorem BF.drew (h : BF B b w w') (_hB : B ≤ w'.heap.size) : BF B b w w'.drew := ⟨h.bel.drew, h.kept.drew⟩
theorem Blk.others {g : Nat} {t : TypeId} {cs : List Value} (h : Blk w g t cs) (hk : BF B b w w') (hg : g ≠ b) (ht : t ≠ 5) : Blk w' g t cs :=
  hk.kept g _ h (fun e => hg (Option.some.inj e)) (fun c fz e => by injection e with _ h2 _; exact ht h2)
theorem IB.lt' (h : IB B b bs w) : b < w.heap.size := h.buf.lt
theorem IB.alloc (h : IB B b bs w) (o : Obj) : IB B b bs (w.alloc o) := ⟨h.buf.alloc o, h.lt⟩
theorem IB.drew (h : IB B b bs w) : IB B b bs w.drew := ⟨h.buf.drew, h.lt⟩
theorem IB.old (h : IB B b bs w) (hb : Below w.heap.size w w') : IB B b bs w' := ⟨h.buf.old hb, h.lt⟩
theorem IB.mono {B' : Nat} (h : IB B b bs w) (hB : B' ≤ B) : IB B' b bs w := by
  obtain ⟨h1, v, lr, h3, ho, hn⟩ := h.buf
  exact ⟨⟨Nat.le_trans hB h1, v, lr, h3, Sl.owns_mono ho hB, hn⟩, h.lt⟩
theorem IB.new (w : World) : IB w.heap.size w.heap.size [] (w.alloc (.cells #[.slice none 0 0, .int .i64 0, .int .i8 0] 208)) :=
  ⟨LibA.zero_isBuffer (Nat.le_refl _) (LibA.three_whole (heap_alloc_new w _)), by simp⟩
end
theorem numI_at (x : Int) (j s : Nat) (hj : j < 8) (hs : 56 - 8 * j = s) : (numB x).drop j = (x / 2 ^ s % 256).toNat :: (numB x).drop (j + 1) := by
  rw [numB_at x j hj, hs, IntKind.wrap_u64]
  congr 2
  subst hs
  have : j = 0 ∨ j = 1 ∨ j = 2 ∨ j = 3 ∨ j = 4 ∨ j = 5 ∨ j = 6 ∨ j = 7 := by omega
  rcases this with rfl | rfl | rfl | rfl | rfl | rfl | rfl | rfl <;> omega
theorem byte_cell (y : Int) : [Value.int .u8 (y % 256)] = bv [(y % 256).toNat] := by
  show _ = [Value.int .u8 _]
  rw [Int.toNat_of_nonneg (by omega)]

theorem writeByte_any (B b : Nat) (bs : List Nat) (y : Int) (w : World) (H : IB B b bs w) (hB : B ≤ w.heap.size) (hl : bs.length + 1 ≤ 140737488355328) :
    Calls Tryz.prog 209 #[.pointer (some ⟨b, 0, none⟩), .int .u8 (y % 256)] w fun e w' => e = .returned .nilIface ∧ IB B b (bs ++ [(y % 256).toNat]) w' ∧ BF B b w w' := by
  refine (Tryz.Buffer_WriteByte_at _ _ B b 0 (bv bs) (y % 256) w H.buf hB (bv_one _) (by rw [bv_length]; exact hl)).mono ?_
  rintro e w' ⟨rfl, h1, h2, h3⟩
  refine ⟨rfl, ⟨?_, fun u hu => ?_⟩, h2, h3⟩
  · rw [bv_append, ← byte_cell]; exact h1
  · rcases List.mem_append.1 hu with h | h
    · exact H.lt u h
    · rw [List.mem_singleton] at h; omega

theorem write_any (B b : Nat) (bs : List Nat) (a : Addr) (n c : Nat) (l : List Nat) (w : World) (H : IB B b bs w) (hB : B ≤ w.heap.size) (hab : a.block ≠ b) (hs : BS w (some a) n c l) (hl : bs.length + n ≤ 140737488355328) :
    Calls Tryz.prog 221 #[.pointer (some ⟨b, 0, none⟩), .slice (some a) n c] w fun e w' => (∃ v, e = .returned v) ∧ IB B b (bs ++ l) w' ∧ BF B b w w' := by
  refine (Tryz.Buffer_Write_at _ _ B b 0 (bv bs) (bv l) a n c w H.buf hB (bv_one _) (by rw [bv_length]; exact hs.len) hab (fun j v hj => BS.news hs j v hj) (bv_one _) (by rw [bv_length]; exact hl)).mono ?_
  rintro e w' ⟨rfl, h1, h2, h3⟩
  refine ⟨⟨_, rfl⟩, ⟨?_, fun u hu => ?_⟩, h2, h3⟩
  · rw [bv_append]; exact h1
  · rcases List.mem_append.1 hu with h | h
    · exact H.lt u h
    · exact hs.lt u h
end Go.Proofs.YtlpgjdlkjahdgaaGreatDoor
namespace Go.Proofs.YtlpgjdlkjahdgaaGreatDoor
open Go.RowKit Go.Mem

theorem IB.of_eq {B b : Nat} {x y : List Nat} {w : World} (h : IB B b x w) (e : x = y) : IB B b y w := e ▸ h

set_option maxRecDepth 20000 in
set_option maxHeartbeats 2000000 in
theorem numbers_any (B b : Nat) (bs : List Nat) (g m c : Nat) (ns : List Int) (w : World) (H : IB B b bs w) (hB : B ≤ w.heap.size) (HN : Blk w g 3 (iv ns)) (hgb : g ≠ b)
    (hm : ns.length = m) (hmc : m ≤ c) (hcx : c ≤ 9223372036854775807) (m8 : m ≤ 8) (hns : ∀ x ∈ ns, I64 x) (hl : bs.length ≤ 1000000) :
    Calls Tryz.prog 174 #[.pointer (some ⟨b, 0, none⟩), .slice (some ⟨g, 0, none⟩) m c] w
      fun e w' => e = .returned (.pointer (some ⟨b, 0, none⟩)) ∧ IB B b (bs ++ numsB ns) w' ∧ BF B b w w' := by
  have mx : (m : Int) ≤ 9223372036854775807 := by omega
  have H' := Lib.hid H; have HN' := Lib.hid HN; have hns' := Lib.hid hns
  clear H HN hns
  go_enter Tryz.func174, Tryz.ntmps174
  go_wp2_with fail
  go_loopw [10] (fun i wr => ∃ (k : Nat) (xs : List Nat), k ≤ m ∧ i = .int .i64 k ∧ Hid (IB B b xs wr) ∧ Hid (BF B b w wr) ∧ Hid (xs.length = bs.length + 8 * k) ∧ Hid (xs ++ numsB (ns.drop k) = bs ++ numsB ns)) (fun i _ => m - (intOf i).toNat)
  case atStart => exact ⟨0, bs, Nat.zero_le _, rfl, H', BF.refl _ _ _, rfl, rfl⟩
  case round =>
    obtain ⟨k, xs, hk, rfl, hI, hF, hxl, hfl⟩ := hrel
    by_cases hlt : k < m
    · have hkl : k < ns.length := by omega
      have c0 := (Blk.others HN'.out hF.out hgb (by decide)).at_ (iv_get hkl)
      have hx64 := hns'.out ns[k] (List.getElem_mem hkl)
      have hfl' := hfl.out
      rw [List.drop_eq_getElem_cons hkl, numsB_cons] at hfl'
      generalize ns[k] = x at *
      obtain ⟨x0, x1⟩ := hx64
      have hfl2 := Lib.hid hfl'
      clear hfl hfl' hkl
      have k0 : (0 : Int) ≤ (k : Int) := by omega
      have k1 : (k : Int) < (m : Int) := by omega
      go_wp2_with fail
      go_loopw [7] (fun i wq => ∃ (j : Nat) (ys : List Nat), j ≤ 8 ∧ i = .int .i64 (56 - 8 * (j : Int)) ∧ Hid (IB B b ys wq) ∧ Hid (BF B b w wq) ∧ Hid (ys.length = bs.length + 8 * k + j) ∧ Hid (ys ++ (numB x).drop j = xs ++ numB x)) (fun i _ => (intOf i + 8).toNat)
      case atStart => exact ⟨0, xs, by omega, rfl, hI, hF, hxl, rfl⟩
      case round =>
        obtain ⟨j, ys, hj, rfl, hJ, hG, hyl, hys⟩ := hrel
        by_cases hj8 : j < 8
        · obtain ⟨s, hs⟩ : ∃ s : Nat, Hid (56 - 8 * j = s) := ⟨_, rfl⟩
          have hs0 := hs.out
          rw [show (56 : Int) - 8 * (j : Int) = (s : Int) by omega]
          have s0 : (0 : Int) ≤ (s : Int) := by omega
          have s1 : (s : Int) < 64 := by omega
          have hnx := numI_at x j s hj8 hs0
          have hys' := hys.out
          rw [hnx] at hys'
          have hyl' := hyl.out
          have hys2 : Hid ((ys ++ [(x / 2 ^ s % 256).toNat]) ++ (numB x).drop (j + 1) = xs ++ numB x) := by show _ = _; rw [← hys']; simp
          have e8 : Hid (56 - 8 * ((j + 1 : Nat) : Int) = (s : Int) - 8) := by show _ = _; omega
          clear hnx hys' hys hs hyl
          go_wp2_with fail
          go_still_tail 7, (by kernel_rfl)
          change wpList _ _ _ _ _ wr.drew
          have hc2 := Lib.hid (writeByte_any B b ys (x / 2 ^ s) wr.drew hJ.out.drew (Nat.le_trans hB hG.out.bel.size) (by omega))
          go_wp2_with fail
          refine hc2.out.mono ?_
          rintro e w1 ⟨rfl, hJ1, hF1⟩
          have hG1 := Lib.hid ((hG.out.drew (Nat.le_trans hB hG.out.bel.size)).trans hF1)
          have hJ1' := Lib.hid hJ1
          clear hF1 hJ1 hc2 hG hJ
          go_wp2_with fail
          go_roundw
          case rel => exact ⟨j + 1, _, by omega, by rw [e8.out], hJ1', hG1, by show _ = _; rw [List.length_append, hyl']; rfl, hys2⟩
          case measure => simp [intOf]; omega
        · obtain rfl : j = 8 := by omega
          have hys' := hys.out
          rw [List.drop_eq_nil_of_le (by rw [numB_length]; exact Nat.le_refl _), List.append_nil] at hys'
          subst hys'
          go_wp2_with fail
          refine ⟨⟨k + 1, xs ++ numB x, by omega, by go_num, hJ, hG, by show _ = _; rw [hyl.out]; omega, ?_⟩, by simp [intOf]; omega⟩
          show _ = _
          rw [List.append_assoc]; exact hfl2.out
    · obtain rfl : k = m := by omega
      have hfl' := hfl.out
      rw [List.drop_eq_nil_of_le (by omega), show numsB [] = [] from rfl, List.append_nil] at hfl'
      subst hfl'
      go_wp2_with fail
      go_ret
      exact ⟨rfl, hI.out, hF.out⟩

theorem rows32 {ds : List (List Nat)} (h : ∀ d ∈ ds, d.length = 32) : ∀ r ∈ ds.map bv, r.length = 32 := fun r hr => by
  obtain ⟨d, hd, rfl⟩ := List.mem_map.1 hr
  rw [bv_length, h d hd]
theorem Blk.row32 {w : World} {g k : Nat} {t : TypeId} {ds : List (List Nat)} {d : List Nat} (H : Blk w g t (ds.map bv).flatten) (h : ∀ d ∈ ds, d.length = 32) (hd : ds[k]? = some d) : w.rangeAt g (k * 32) (bv d) := fun j u hu =>
  H.at_ (flat_get (rows32 h) (by rw [List.getElem?_map, hd]; rfl) hu)
theorem BF.grown {B b : Nat} {w w' w2 : World} {g : Nat} (h : BF B b w w') (hg : w'.grownBy w2 (some g)) (hB : B ≤ w'.heap.size) (hgB : w.heap.size ≤ g) (hBw : B ≤ w.heap.size) : BF B b w w2 :=
  ⟨h.bel.grown hg hB (fun k e => by cases e; exact Nat.le_trans hBw hgB), fun k o hk hb ho => by
    have h1 := h.kept k o hk hb ho
    have hlt : k < w.heap.size := (Array.getElem?_eq_some_iff.1 hk).1
    have hlt' : k < w'.heap.size := (Array.getElem?_eq_some_iff.1 h1).1
    rw [hg.block k hlt' (fun e => by cases e; omega)]
    exact h1⟩

set_option maxRecDepth 20000 in
set_option maxHeartbeats 2000000 in
theorem digests_any (B b : Nat) (bs : List Nat) (g m c : Nat) (ds : List (List Nat)) (w : World) (H : IB B b bs w) (hB : B ≤ w.heap.size) (HN : Blk w g 43 (ds.map bv).flatten) (hgb : g ≠ b)
    (hm : ds.length = m) (hmc : m ≤ c) (hcx : c ≤ 9223372036854775807) (m8 : m ≤ 8) (hd32 : ∀ d ∈ ds, d.length = 32) (hdl : ∀ d ∈ ds, ∀ u ∈ d, u < 256) (hl : bs.length ≤ 1000000) :
    Calls Tryz.prog 208 #[.pointer (some ⟨b, 0, none⟩), .slice (some ⟨g, 0, none⟩) m c] w
      fun e w' => e = .returned (.pointer (some ⟨b, 0, none⟩)) ∧ IB B b (bs ++ ds.flatten) w' ∧ BF B b w w' := by
  have mx : (m : Int) ≤ 9223372036854775807 := by omega
  have H' := Lib.hid H; have HN' := Lib.hid HN; have h32' := Lib.hid hd32; have hdl' := Lib.hid hdl
  clear H HN hd32 hdl
  go_enter Tryz.func208, Tryz.ntmps208
  go_wp2_with fail
  go_loopw [9] (fun i wr => ∃ (k : Nat) (xs : List Nat), k ≤ m ∧ i = .int .i64 k ∧ Hid (IB B b xs wr) ∧ Hid (BF B b w wr) ∧ Hid (xs.length = bs.length + 32 * k) ∧ Hid (xs ++ (ds.drop k).flatten = bs ++ ds.flatten)) (fun i _ => m - (intOf i).toNat)
  case atStart => exact ⟨0, bs, Nat.zero_le _, rfl, H', BF.refl _ _ _, rfl, rfl⟩
  case round =>
    obtain ⟨k, xs, hk, rfl, hI, hF, hxl, hfl⟩ := hrel
    by_cases hlt : k < m
    · have hkl : k < ds.length := by omega
      have hr1 := Lib.hid (Blk.row32 (Blk.others HN'.out hF.out hgb (by decide)) h32'.out (List.getElem?_eq_getElem hkl))
      have hd1 := h32'.out ds[k] (List.getElem_mem hkl)
      have hd2 := hdl'.out ds[k] (List.getElem_mem hkl)
      have hfl' := hfl.out
      rw [List.drop_eq_getElem_cons hkl, List.flatten_cons] at hfl'
      generalize ds[k] = d at *
      have hbw := hI.out.lt'
      have hBr := Nat.le_trans hB hF.out.bel.size
      obtain ⟨W2, hP⟩ := put_dig (x := d) (Blk.new wr 43 (bv (List.replicate 32 0))) (by simp) hd1
      have hG2 : Hid (BF B b w W2) := (hF.out.alloc hBr _).grown hP.grown (by simp; omega) hF.out.bel.size hB
      have hI2 : Hid (IB B b xs W2) := hI.out.old (below_grown ((Below.refl _ wr).alloc (Nat.le_refl _) _) hP.grown (by simp) (Nat.le_refl _))
      have hS2 : Hid (BS W2 (some ⟨wr.heap.size, 0, none⟩) 32 32 d) := by
        have := Blk.bs (pre := []) (post := []) (l := d) (c := 32) (by simpa using hP.blk) (by omega) (by omega) hd2
        rwa [hd1] at this
      have hP' := Lib.hid hP
      have hdl : Hid ((Tryz.prog.info? 43).map (·.size) = some (bv d).length) := by show _ = _; rw [bv_length, hd1]; exact size35
      have hf2 := Lib.hid hfl'
      have hxl' := hxl.out
      have k0' : (0 : Int) ≤ (k : Int) := by omega
      have k1' : (k : Int) < (m : Int) := by omega
      have s1 := fun W => slice_all W wr.heap.size
      have hwb : wr.heap.size ≠ b := by omega
      obtain ⟨tb, htb⟩ : ∃ tb, Hid (wr.heap.size = tb) := ⟨_, rfl⟩
      clear hP hfl' hfl hkl hI hF hd2
      rw [htb.out] at hP' hS2 s1 hwb
      go_wp2_with (first
        | (refine wpList_load_mid (by rfl) 43 (.tmp 11) (by rfl) g (k * 32) (by rfl) (bv d) _ hr1.out Tryz.underlying43 (by rfl) hdl.out ?_)
        | (rw [htb.out]; refine wpList_store_mid (by rfl) 43 (.tmp 6) (.tmp 12) (by rfl) tb 0 (bv d).toArray (by rfl) (by rfl) hP'.out.there hP'.out.info (by simpa using hP'.out.one) ?_
           generalize hWq : World.setCells _ _ _ _ = Wa
           obtain rfl : W2 = Wa := by rw [← hWq]; exact hP'.out.eq
           clear hWq))
      go_still_tail 4, (by kernel_rfl)
      repeat still_step
      change wpList _ _ _ _ _ W2.drew
      have hBq := Nat.le_trans hB hG2.out.bel.size
      have hc2 := Lib.hid (write_any B b xs ⟨tb, 0, none⟩ 32 32 d W2.drew hI2.out.drew hBq hwb (hS2.out.below (below_drewN _ 1 _)) (by omega))
      have hdl2 : Hid (d.length = 32) := hd1
      clear hI2 hS2 hr1 hP' s1
      go_wp2_with fail
      refine hc2.out.mono ?_
      rintro e w3 ⟨⟨v, rfl⟩, hI3, hF3⟩
      have hG3 := Lib.hid ((hG2.out.drew hBq).trans hF3)
      have hI3' := Lib.hid hI3
      clear hF3 hI3 hc2 hG2
      go_wp2_with fail
      go_roundw
      case rel => exact ⟨k + 1, _, by omega, by go_num, hI3', hG3, by show _ = _; rw [List.length_append, hxl', hdl2.out]; omega, by show _ = _; rw [List.append_assoc]; exact hf2.out⟩
      case measure => simp [intOf]; omega
    · obtain rfl : k = m := by omega
      have hfl' := hfl.out
      rw [List.drop_eq_nil_of_le (by omega), List.flatten_nil, List.append_nil] at hfl'
      subst hfl'
      go_wp2_with fail
      go_ret
      exact ⟨rfl, hI.out, hF.out⟩

set_option maxHeartbeats 1000000 in
/-- (*bytes.Buffer).Bytes. -/
theorem bytesOf_any (B b : Nat) (bs : List Nat) (w : World) (H : IB B b bs w) :
    Calls Tryz.prog 172 #[.pointer (some ⟨b, 0, none⟩)] w fun e w' => ∃ a c, e = .returned (.slice a bs.length c) ∧ BS w' a bs.length c bs ∧ ∃ m, w' = w.drewN m := by
  obtain ⟨hB, v, lr, h3, hown, hne⟩ := H.buf
  have c0 := h3.c0
  have c1 := h3.c1
  obtain ⟨a, c, rfl, hBS⟩ := BS.own hown H.lt
  rw [bv_length] at c0 hBS
  have hBS' := Lib.hid hBS
  clear h3 hown hne hBS
  go_enter Tryz.func172, Tryz.ntmps172
  go_wp2_with fail
  go_quiet (fail)
  go_wp2_with fail
  go_ret
  exact ⟨a, c, rfl, hBS'.out.below (below_drewN _ _ _), _, rfl⟩

/-- a digest that goes into a result's cell. -/
theorem ret_dig {w W : World} {tb : Nat} {D0 D : List Nat} (hD : Blk W tb 43 (bv D0)) (h0 : D0.length = 32) (hl : D.length = 32) (hb : Below w.heap.size w W) (htb : w.heap.size ≤ tb) :
    ∃ W9, PutD W W9 tb (bv D) ∧ DigPost D w (.returned (.agg (bv D).toArray)) W9 := by
  obtain ⟨W9, hP⟩ := put_dig hD h0 hl
  exact ⟨W9, hP, rfl, below_grown hb hP.grown hb.size htb⟩
theorem zero_dig (w : World) : Blk (w.alloc (.cells (bv (List.replicate 32 0)).toArray 43)) w.heap.size 43 (bv (List.replicate 32 0)) := Blk.new w _ _

set_option maxRecDepth 20000 in
set_option maxHeartbeats 2000000 in
theorem under_any (tag : ByteArray) (htg : tag.size ≤ 140737488355328) (B b : Nat) (bs : List Nat) (w : World) (HT : Tabs w) (H : IB B b bs w) (hl : bs.length ≤ 140737488355000) :
    Calls Tryz.prog 175 #[.pointer (some ⟨b, 0, none⟩), .string tag] w (DigPost (Sha.tagged (octets tag) bs) w) := by
  have HT' := Lib.hid HT; have H' := Lib.hid H
  clear HT H
  obtain ⟨tb, htb⟩ : ∃ tb, Hid (w.heap.size = tb) := ⟨_, rfl⟩
  go_enter Tryz.func175, Tryz.ntmps175
  go_wp2_with fail
  rw [htb.out]
  obtain ⟨W, hW⟩ : ∃ W, Hid (w.alloc (.cells (bv (List.replicate 32 0)).toArray 43) = W) := ⟨_, rfl⟩
  have hD : Hid (Blk W tb 43 (bv (List.replicate 32 0))) := by rw [← hW.out, ← htb.out]; exact zero_dig w
  have hb : Hid (Below w.heap.size w W) := by rw [← hW.out]; exact (Below.refl _ w).alloc (Nat.le_refl _) _
  have hI : Hid (IB B b bs W) := by rw [← hW.out]; exact H'.out.alloc _
  change Calls _ _ _ (w.alloc (.cells (bv (List.replicate 32 0)).toArray 43)) _
  rw [hW.out]
  clear hW
  refine (bytesOf_any B b bs W hI.out).mono ?_
  rintro e w1 ⟨a, c, rfl, hBS, m, rfl⟩
  have hBS' := Lib.hid hBS
  clear hBS
  go_wp2_with fail
  refine (tagged_any tag htg a bs.length c bs (W.drewN m) (HT'.out.below (hb.out.trans (below_drewN _ _ _))) hBS'.out hl).mono ?_
  rintro e W8 ⟨rfl, hb8⟩
  have hD8 := Blk.below (hD.out.drewN m) hb8 (hD.out.drewN m).lt
  have hb8' : Below w.heap.size w W8 := (hb.out.trans (below_drewN _ m _)).trans (hb8.mono (hb.out.trans (below_drewN _ m _)).size)
  obtain ⟨W9, hP, hpost⟩ := ret_dig (D := Sha.tagged (octets tag) bs) hD8 (by simp) (Sha.tagged_length _ _) hb8' (Nat.le_of_eq htb.out)
  have hP' := Lib.hid hP; have hpost' := Lib.hid hpost
  clear hP hpost hb8' hD8 hb8 hBS' hD hb hI
  generalize bv (Sha.tagged (octets tag) bs) = RES at *
  go_wp2_with (refine wpList_store_mid (by rfl) 43 (.tmp 4) (.tmp 10) (by rfl) tb 0 RES.toArray (by rfl) (by rfl) hP'.out.there hP'.out.info (by simpa using hP'.out.one) ?_)
  generalize hW9 : World.setCells _ _ _ _ = Wa
  obtain rfl : W9 = Wa := by rw [← hW9]; exact hP'.out.eq
  exact bodyPost_ret (results_cell_row rfl _ _ tb 43 RES.toArray (0, 0) _ rfl hP'.out.blk Tryz.underlying43 rfl hP'.out.info) rfl hpost'.out
end Go.Proofs.YtlpgjdlkjahdgaaGreatDoor
