/- the hash of bytes -/
import Derived.Test.YtnonfdcbnkdmcaaGreatDoorAbs
import Derived.Test.YtnonfdcbnkdmcaaGreatDoorMem2
namespace Go.Proofs.YtnonfdcbnkdmcaaGreatDoor
open Go.RowKit Go.Mem

theorem size5 : (Tryz.prog.info? 5).map (·.size) = some 1 := by kernel_rfl

theorem size35 : (Tryz.prog.info? 32).map (·.size) = some 32 := by kernel_rfl

def Tabs (w : World) : Prop := KTab w ∧ ∀ (i : Nat) x, (stv Sha.start)[i]? = some x → w.cell? ⟨0, i, none⟩ = some (.int .u32 ((x : Nat) : Int))
theorem Tabs.below {w w' : World} (h : Tabs w) (hb : Below w.heap.size w w') : Tabs w' :=
 ⟨⟨Nat.lt_of_lt_of_le h.1.1 hb.size, fun i x hx => (hb.cell (p := ⟨1, i, none⟩) h.1.1).trans (h.1.2 i x hx)⟩,
   fun i x hx => (hb.cell (p := ⟨0, i, none⟩) (show 0 < w.heap.size from Nat.lt_trans (by decide) h.1.1)).trans (h.2 i x hx)⟩

theorem index8 (s : Sha.St) (k x : Nat) (hx : (stv s)[k]? = some x) (W : World) :
 (Instr.index 211 (.agg #[.int .u32 (s.a : Int), .int .u32 (s.b : Int), .int .u32 (s.c : Int), .int .u32 (s.d : Int), .int .u32 (s.e : Int), .int .u32 (s.f : Int), .int .u32 (s.g : Int), .int .u32 (s.h : Int)]) (.int .i64 (k : Int))).run Tryz.prog W = .ok (.int .u32 (x : Int)) W := by
 have hk : k < 8 := (List.getElem?_eq_some_iff.1 hx).1
 have h8 : k = 0 ∨ k = 1 ∨ k = 2 ∨ k = 3 ∨ k = 4 ∨ k = 5 ∨ k = 6 ∨ k = 7 := by omega
 rcases h8 with rfl | rfl | rfl | rfl | rfl | rfl | rfl | rfl <;> (cases hx; show _ = _; kernel_rfl)
theorem slice_dig (W : World) (db k : Nat) (hk : k < 8) :
 (Instr.sliceAt 32 (.pointer (some ⟨db, 0, none⟩)) (some (.int .i64 (4 * (k : Int)))) (some (.int .i64 (4 * (k : Int) + 4))) none).run Tryz.prog W = .ok (.slice (some ⟨db, 4 * k, none⟩) 4 (32 - 4 * k)) W := by
 have e5 : Tryz.prog.elem 32 = 5 := by kernel_rfl
 have e32 : Tryz.prog.arrayLen 32 = 32 := by kernel_rfl
 obtain ⟨i5, hi5, hz5⟩ : ∃ i, Tryz.prog.info? 5 = some i ∧ i.size = 1 := by
  have h := size5
  cases hq : Tryz.prog.info? 5 with
  | none => rw [hq] at h; cases h
  | some i => exact ⟨i, rfl, by simpa [hq] using h⟩
 have ht : Tryz.prog.underlying 32 = some (.array (Tryz.prog.arrayLen 32) (Tryz.prog.elem 32)) := by rw [e5, e32]; exact Tryz.underlying32
 rw [run_sliceAt_array_lh (P := Tryz.prog) W 32 ⟨db, 0, none⟩ ht .i64 .i64 (4 * (k : Int)) (4 * (k : Int) + 4) (by omega) (by omega) (by rw [e32]; omega), e5, e32]
 have t1 : (4 * (k : Int)).toNat = 4 * k := by omega
 have t2 : (4 * (k : Int) + 4).toNat = 4 * k + 4 := by omega
 rw [t1, t2]
 simp [sizeOf, typeInfo, hi5, hz5, slicedAt, Addr.add_lit]
 omega
theorem stv_lt {s : Sha.St} (h : s.Ok) {k x : Nat} (hx : (stv s)[k]? = some x) : x < 4294967296 := by
 have hk : k < 8 := (List.getElem?_eq_some_iff.1 hx).1
 have h8 : k = 0 ∨ k = 1 ∨ k = 2 ∨ k = 3 ∨ k = 4 ∨ k = 5 ∨ k = 6 ∨ k = 7 := by omega
 rcases h8 with rfl | rfl | rfl | rfl | rfl | rfl | rfl | rfl <;> (cases hx; first | exact h.a | exact h.b | exact h.c | exact h.d | exact h.e | exact h.f | exact h.g | exact h.h)
theorem out_step (s : Sha.St) {k x : Nat} (hx : (stv s)[k]? = some x) : (Sha.out s).take (4 * (k + 1)) = (Sha.out s).take (4 * k) ++ Sha.be 4 x := by
 have hk : k < 8 := (List.getElem?_eq_some_iff.1 hx).1
 have h8 : k = 0 ∨ k = 1 ∨ k = 2 ∨ k = 3 ∨ k = 4 ∨ k = 5 ∨ k = 6 ∨ k = 7 := by omega
 rcases h8 with rfl | rfl | rfl | rfl | rfl | rfl | rfl | rfl <;> (cases hx; rfl)

def DigPost (l : List Nat) (w : World) (e : Ending) (w' : World) : Prop := e = .returned (.agg (bv l).toArray) ∧ Below w.heap.size w w'

theorem absorb_q (sb b off n c : Nat) (s : Sha.St) (l : List Nat) (w : World) (HS : Blk w sb 211 (wv (stv s))) (hok : s.Ok) (H : BS w (some ⟨b, off, none⟩) n c l) (hn : 64 ≤ n) (HK : KTab w) :
 Calls Tryz.prog 188 #[.pointer (some ⟨sb, 0, none⟩), .slice (some ⟨b, off, none⟩) 64 c] w (AbsPost sb (Sha.comp s (l.take 64)) w) := by
 obtain ⟨b', off', e, hb, hc⟩ := H.cells0
 cases e
 have hle := H.le
 refine absorb_any sb b off c s (l.take 64) w HS hok (fun i x hx => ?_) (by rw [List.length_take, H.len]; omega) (fun x hx => H.lt x (List.mem_of_mem_take hx)) hb (by omega) H.max HK
 have hi : i < 64 := by have := (List.getElem?_eq_some_iff.1 hx).1; rw [List.length_take] at this; omega
 rw [List.getElem?_take_of_lt hi] at hx
 exact hc i x hx

set_option maxHeartbeats 4000000 in
set_option maxRecDepth 100000 in
theorem sum_any (a : Option Addr) (n c : Nat) (l : List Nat) (w : World) (H : BS w a n c l) (HT : Tabs w) (hn : n ≤ 281474976710656) :
 Calls Tryz.prog 163 #[.slice a n c] w (DigPost (Sha.sum l) w) := by
 have hz : 1 < w.heap.size := HT.1.1
 have t0 : ∀ o, (w.alloc o).cell? ⟨0, 0, none⟩ = some (.int .u32 1779033703) := fun o => (((Below.refl _ w).alloc (Nat.le_refl _) o).cell (p := ⟨0, 0, none⟩) (show 0 < w.heap.size by omega)).trans (HT.2 0 _ rfl)
 have t1 : ∀ o, (w.alloc o).cell? ⟨0, 1, none⟩ = some (.int .u32 3144134277) := fun o => (((Below.refl _ w).alloc (Nat.le_refl _) o).cell (p := ⟨0, 1, none⟩) (show 0 < w.heap.size by omega)).trans (HT.2 1 _ rfl)
 have t2 : ∀ o, (w.alloc o).cell? ⟨0, 2, none⟩ = some (.int .u32 1013904242) := fun o => (((Below.refl _ w).alloc (Nat.le_refl _) o).cell (p := ⟨0, 2, none⟩) (show 0 < w.heap.size by omega)).trans (HT.2 2 _ rfl)
 have t3 : ∀ o, (w.alloc o).cell? ⟨0, 3, none⟩ = some (.int .u32 2773480762) := fun o => (((Below.refl _ w).alloc (Nat.le_refl _) o).cell (p := ⟨0, 3, none⟩) (show 0 < w.heap.size by omega)).trans (HT.2 3 _ rfl)
 have t4 : ∀ o, (w.alloc o).cell? ⟨0, 4, none⟩ = some (.int .u32 1359893119) := fun o => (((Below.refl _ w).alloc (Nat.le_refl _) o).cell (p := ⟨0, 4, none⟩) (show 0 < w.heap.size by omega)).trans (HT.2 4 _ rfl)
 have t5 : ∀ o, (w.alloc o).cell? ⟨0, 5, none⟩ = some (.int .u32 2600822924) := fun o => (((Below.refl _ w).alloc (Nat.le_refl _) o).cell (p := ⟨0, 5, none⟩) (show 0 < w.heap.size by omega)).trans (HT.2 5 _ rfl)
 have t6 : ∀ o, (w.alloc o).cell? ⟨0, 6, none⟩ = some (.int .u32 528734635) := fun o => (((Below.refl _ w).alloc (Nat.le_refl _) o).cell (p := ⟨0, 6, none⟩) (show 0 < w.heap.size by omega)).trans (HT.2 6 _ rfl)
 have t7 : ∀ o, (w.alloc o).cell? ⟨0, 7, none⟩ = some (.int .u32 1541459225) := fun o => (((Below.refl _ w).alloc (Nat.le_refl _) o).cell (p := ⟨0, 7, none⟩) (show 0 < w.heap.size by omega)).trans (HT.2 7 _ rfl)
 have HT' := Lib.hid HT
 have H' := Lib.hid H
 clear HT H
 go_enter Tryz.func163, Tryz.ntmps163
 go_wp2_with fail
 generalize hW0 : World.alloc _ _ = W0
 clear t0 t1 t2 t3 t4 t5 t6 t7
 have D0 : Blk W0 w.heap.size 32 (bv (List.replicate 32 0)) := by rw [← hW0]; exact (Blk.new w _ _).alloc _
 have S0 : Blk W0 (w.heap.size + 1) 211 (wv (stv Sha.start)) := by rw [← hW0, ← World.size_alloc w (.cells (bv (List.replicate 32 0)).toArray 32)]; exact Blk.new _ _ _
 have hb0 : Below w.heap.size w W0 := by rw [← hW0]; exact ((Below.refl _ _).alloc (Nat.le_refl _) _).alloc (by simp) _
 have hs0 : W0.heap.size = w.heap.size + 2 := by rw [← hW0]; simp
 clear hW0
 obtain ⟨db, hdb⟩ : ∃ db, w.heap.size = db := ⟨_, rfl⟩
 rw [hdb] at D0 S0 hb0 hs0 ⊢
 obtain ⟨sb, hsb⟩ : ∃ sb, db + 1 = sb := ⟨_, rfl⟩
 rw [hsb] at S0 ⊢
 have hsd : db < sb := by omega
 have hT0 := Lib.hid (HT'.out.below (by rw [hdb]; exact hb0))
 have hH0 := Lib.hid (H'.out.below (by rw [hdb]; exact hb0))
 have hal : Hid (∀ ad, a = some ad → ad.block < db) := by intro ad e; rw [← hdb]; exact H'.out.block_lt ad e
 have hdb' := Lib.hid hdb; have hsb' := Lib.hid hsb; have D0' := Lib.hid D0; have S0' := Lib.hid S0; have hb0' := Lib.hid hb0; have hs0' := Lib.hid hs0
 obtain ⟨MID, hMID⟩ : ∃ MID, Hid (Sha.blocks (n / 64) Sha.start l = MID) := ⟨_, rfl⟩
 obtain ⟨R, hR⟩ : ∃ R, Hid (l.drop (n / 64 * 64) = R) := ⟨_, rfl⟩
 have hn' := Lib.hid hn
 clear D0 S0 hb0 hs0 hdb hsb hz hn
 go_loopw [5] (fun r wr => ∃ (A : Option Addr) (m cc : Nat) (l' : List Nat) (s : Sha.St), r = .slice A m cc ∧ BS wr A m cc l' ∧ (∀ ad, A = some ad → ad.block < db) ∧ s.Ok ∧ Blk wr sb 211 (wv (stv s)) ∧ Sha.blocks (m / 64) s l' = MID ∧ l'.drop (m / 64 * 64) = R ∧ W0.grownBy wr (some sb))
  (fun r _ => match r with | .slice _ m _ => m | _ => 0)
 case atStart => exact ⟨a, n, c, l, Sha.start, rfl, hH0.out, hal.out, Sha.start_ok, S0'.out, hMID.out, hR.out, World.grownBy.refl W0 _⟩
 case round =>
  obtain ⟨A, m, cc, l', s, rfl, hBS, hA, hok, hS, hbl, hdr, hG⟩ := hrel
  by_cases h64 : 64 ≤ m
  · obtain ⟨ad, rfl⟩ : ∃ ad, A = some ad := by
     cases A with
     | none => have := (hBS.nil rfl).1; omega
     | some ad => exact ⟨ad, rfl⟩
    obtain ⟨b, off, rfl, hbw, _⟩ := hBS.cells0
    have hbd := hA _ rfl
    have hTr : Tabs wr := by
     have h1 := hT0.out
     refine ⟨⟨Nat.lt_of_lt_of_le h1.1.1 hG.size, fun i x hx => ?_⟩, fun i x hx => ?_⟩
     · have hz := HT'.out.1.1
       rw [hdb'.out] at hz
       exact (World.cell?_of_block (hG.block 1 h1.1.1 (fun e => by cases e; omega))).trans (h1.1.2 i x hx)
     · have hz := HT'.out.1.1
       rw [hdb'.out] at hz
       exact (World.cell?_of_block (hG.block 0 (by have := h1.1.1; omega) (fun e => by cases e; omega))).trans (h1.2 i x hx)
    have hca := Lib.hid (absorb_q sb b off m cc s l' wr hS hok hBS h64 hTr.1)
    have hcut := hBS.cut h64
    have hle := hBS.le
    have hmx := hBS.max
    have hG' := Lib.hid hG
    have hbl' : Hid (Sha.blocks ((m - 64) / 64) (Sha.comp s (l'.take 64)) (l'.drop 64) = MID) := by
     show _ = _
     rw [← hbl, show m / 64 = (m - 64) / 64 + 1 by omega]; rfl
    have hdr' : Hid ((l'.drop 64).drop ((m - 64) / 64 * 64) = R) := by
     show _ = _
     rw [← hdr, List.drop_drop]; congr 1; omega
    have hcok := Lib.hid (Sha.comp_ok s (l'.take 64))
    have hA' : Hid (b < db) := hbd
    have c64 : (64 : Int) ≤ (cc : Int) := by omega
    have m64 : (64 : Int) ≤ (m : Int) := by omega
    clear hG hbl hdr hTr hS hok hBS hA hbd hbw
    by_cases ec : cc = 64
    all_goals
     first | (subst ec; obtain rfl : m = 64 := (by omega); rw [if_pos rfl] at hcut) | rw [if_neg ec] at hcut
     have hcut' := Lib.hid hcut
     clear hcut
     go_wp2_with fail
     refine (Hid.out hca).mono ?_
     rintro e w' ⟨rfl, hS2, hG2⟩
     have hS2' := Lib.hid hS2; have hG2' := Lib.hid hG2
     clear hS2 hG2
     go_wp2_with fail
     go_roundw
     case rel => exact ⟨_, _, _, l'.drop 64, Sha.comp s (l'.take 64), rfl, hcut'.out.grown hG2'.out (fun ad e => by cases e; have := hA'.out; show b ≠ sb; omega), fun ad e => by cases e; exact hA'.out, hcok.out, hS2'.out, hbl'.out, hdr'.out, grown_trans hG'.out hG2'.out⟩
     case measure => first | (simp; done) | (simp; omega)
  · have h0 : m / 64 = 0 := by omega
    rw [h0] at hbl hdr
    obtain rfl : s = MID := hbl
    obtain rfl : l' = R := by simpa using hdr
    have hm64 : ¬ (64 : Int) ≤ (m : Int) := by omega
    have hml : m < 64 := by omega
    obtain ⟨eb, heb⟩ : ∃ eb, wr.heap.size = eb := ⟨_, rfl⟩
    have hWr : Below db w wr := below_grown hb0'.out hG (by rw [hs0'.out]; omega) (by omega)
    have hsw : sb < eb := by rw [← heb]; exact hS.lt
    have hWsz := Lib.hid hG.size
    have hdw : db ≤ wr.heap.size := by have := hWr.size; rw [hdb'.out] at this; exact this
    obtain ⟨W2, hW2⟩ : ∃ W2, W2 = wr.alloc (.cells (bv (List.replicate 128 0)).toArray 5) := ⟨_, rfl⟩
    have hmk : (Instr.makeSlice 71 (.int .i64 64) (.int .i64 128)).run Tryz.prog wr = .ok (.slice (some ⟨eb, 0, none⟩) 64 128) W2 := by rw [hW2, ← heb]; kernel_rfl
    have E2 : Blk W2 eb 5 (bv (List.replicate 128 0)) := by rw [hW2, ← heb]; exact Blk.new wr _ _
    have hs2 : W2.heap.size = eb + 1 := by rw [hW2, ← heb]; simp
    have hWb2 : Below db w W2 := by rw [hW2]; exact hWr.alloc hdw _
    have hS2 : Blk W2 sb 211 (wv (stv s)) := by rw [hW2]; exact hS.alloc _
    have hBS2 : BS W2 A m cc l' := by rw [hW2]; exact hBS.below ((Below.refl _ _).alloc (Nat.le_refl _) _)
    have hD2 : Blk W2 db 32 (bv (List.replicate 32 0)) := by rw [hW2]; exact (D0'.out.grown hG (fun e => by cases e; omega)).alloc _
    obtain ⟨W3, hcp, E3, hg3, hs3⟩ : ∃ W3, (∀ ty, (Builtin.copy_ #[71, 71] ty #[.slice (some ⟨eb, 0, none⟩) 64 128, .slice A m cc]).run Tryz.prog W2 = .ok (goInt m) W3) ∧ Blk W3 eb 5 (bv (l' ++ List.replicate (128 - m) 0)) ∧ W2.grownBy W3 (some eb) ∧ W3.heap.size = W2.heap.size := by
     cases A with
     | none =>
      obtain ⟨rfl, rfl⟩ := hBS2.nil rfl
      have hl0 : l' = [] := List.eq_nil_of_length_eq_zero hBS2.len
      subst hl0
      exact ⟨W2, fun ty => Sl.run_copy_zero W2 _ _ ty 5 _ _ _ _ _ _ 1 Tryz.underlying71 size5 (by decide), E2, World.grownBy.refl _ _, rfl⟩
     | some ad =>
      obtain ⟨b, off, rfl, hbw, hc⟩ := hBS2.cells0
      have e128 : bv (List.replicate 128 0) = [] ++ bv (List.replicate m 0) ++ bv (List.replicate (128 - m) 0) := by
       rw [List.nil_append, ← bv_append, List.replicate_append_replicate]; congr 2; omega
      obtain ⟨W3, h1, h2, h3, h4⟩ := Sl.copy_row (P := Tryz.prog) W2 71 71 5 eb 0 64 ⟨b, off, none⟩ m m 1 5 [] (bv (List.replicate m 0)) (bv (List.replicate (128 - m) 0)) (bv l') Tryz.underlying71 size5
       (by rw [← e128]; exact E2) rfl (by rw [bv_length, bv_length, List.length_replicate, hBS2.len]) (Nat.min_eq_left (by omega)).symm (by rw [bv_length, hBS2.len]; omega)
       (fun j v hj => by
         rw [Addr.add_lit]
         have hjl := (List.getElem?_eq_some_iff.1 hj).1
         rw [bv_length] at hjl
         rw [bv_get (List.getElem?_eq_getElem hjl)] at hj
         cases hj
         exact hc j _ (List.getElem?_eq_getElem hjl)) (bv_one l')
      exact ⟨W3, fun ty => h1 ty 128 cc, by rw [bv_append]; exact h2, h3, h4⟩
    have m0 : (0 : Int) ≤ (m : Int) := by omega
    have m1 : (m : Int) < 64 := by omega
    have c3 := E3.at_ (i := m) (x := .int .u8 ((0 : Nat) : Int)) (bv_get (by rw [List.getElem?_append_right (by rw [hBS.len]; exact Nat.le_refl _), hBS.len, Nat.sub_self, List.getElem?_replicate, if_pos (by omega)]))
    have f3 := E3.frozen m
    have hcp1 := hcp 3
    have hlen := Lib.hid hBS.len
    have hlt := Lib.hid hBS.lt
    have E3' := Lib.hid E3; have hg3' := Lib.hid hg3; have hs3' := Lib.hid hs3; have hs2' := Lib.hid hs2; have hWb2' := Lib.hid hWb2; have hS2' := Lib.hid hS2; have hD2' := Lib.hid hD2; have hok' := Lib.hid hok; have heb' := Lib.hid heb
    clear E3 hg3 hs3 hs2 hWb2 hS2 hD2 hcp E2 hBS2 hW2 hG hBS hS hA hok hWr h0 heb hdw
    have hW0l : W0.heap.size ≤ eb := by rw [← heb'.out]; exact Nat.le_of_lt_succ (Nat.lt_succ_of_le (by have := hWsz.out; omega))
    obtain ⟨N8, hN8⟩ : ∃ N8, Hid (8 * n = N8) := ⟨_, rfl⟩
    have eN : (n : Int) * 8 = (N8 : Int) := by rw [← hN8.out]; omega
    have hnb : (n : Int) ≤ 281474976710656 := by have := hn'.out; omega
    have hn0 : (0 : Int) ≤ (n : Int) := by omega
    have E4 : Hid (Blk (W3.setCell ⟨eb, m, none⟩ (.int .u8 128)) eb 5 (bv (l' ++ [128] ++ List.replicate (127 - m) 0))) := by
     show Blk _ _ _ _
     have h1 := E3'.out.set m (.int .u8 ((128 : Nat) : Int))
     rw [bv_set, Sha.fill_snoc l' m 128 128 (by omega) hlen.out, show 128 - (m + 1) = 127 - m by omega] at h1
     exact h1
    obtain ⟨W4, hW4⟩ : ∃ W4, W4 = W3.setCell ⟨eb, m, none⟩ (.int .u8 128) := ⟨_, rfl⟩
    have hg24 : Hid (W2.grownBy W4 (some eb)) := by show World.grownBy _ _ _; rw [hW4]; exact grown_set hg3'.out (.inl rfl) _
    rw [← hW4] at E4
    obtain ⟨T, hT⟩ : ∃ T, Hid (Sha.tail l' n = T) := ⟨_, rfl⟩
    by_cases hbig : 55 < m
    · have hbg : decide ((55 : Int) < (m : Int)) = true := by simp; omega
      have e1 : bv (l' ++ [128] ++ List.replicate (127 - m) 0) = bv (l' ++ [128] ++ List.replicate (128 - 9 - m) 0) ++ bv (List.replicate 8 0) ++ bv (List.replicate (0) 0) := by
       rw [← bv_append, ← bv_append]
       congr 1
       rw [List.append_assoc (l' ++ [128]), List.append_assoc (l' ++ [128]), List.replicate_append_replicate, List.replicate_append_replicate]
       congr 2; omega
      have hpl : (bv (l' ++ [128] ++ List.replicate (128 - 9 - m) 0)).length = 120 := by rw [bv_length, List.length_append, List.length_append, hlen.out, List.length_replicate, List.length_singleton]; omega
      have hT2 : Hid (T = l' ++ [128] ++ List.replicate (128 - 9 - m) 0 ++ Sha.be 8 N8) := by
       show _ = _
       rw [← hT.out, ← hN8.out]
       unfold Sha.tail
       rw [hlen.out, if_pos hbig]
      have hTl : Hid (T.length = 128) := by
       show _ = _
       rw [hT2.out, List.length_append, Sha.be_length]
       have := hpl
       rw [bv_length] at this
       omega
      have hp := put_any eb 8 8 5 (bv (l' ++ [128] ++ List.replicate (128 - 9 - m) 0)) (bv (List.replicate (0) 0)) (List.replicate 8 0) N8 W4 (by rw [← e1]; exact E4.out) (by simp) (by omega) (by omega) (by omega) (by omega)
      rw [hpl, ← bv_append, ← hT2.out] at hp
      have hp' := Lib.hid hp
      clear hp e1 hpl
      go_wp2_with fail
      rw [← hW4]
      refine (Hid.out hp').mono ?_
      rintro e W5 ⟨rfl, E5, g5⟩
      have hs4 : eb < W4.heap.size := by rw [hW4]; simp [hs3'.out, hs2'.out]
      have hWb5 : Below db w W5 := below_grown (below_grown hWb2'.out hg24.out (by rw [hs2'.out]; omega) (by omega)) g5 (by omega) (by omega)
      have hTab : Tabs W5 := HT'.out.below (by rw [hdb'.out]; exact hWb5)
      have hS5 := (hS2'.out.grown hg24.out (fun e => by cases e; omega)).grown g5 (fun e => by cases e; omega)
      have hD5 := (hD2'.out.grown hg24.out (fun e => by cases e; omega)).grown g5 (fun e => by cases e; omega)
      have hTlt : ∀ x ∈ T, x < 256 := by
       intro x hx
       rw [hT2.out] at hx
       rcases List.mem_append.1 hx with h | h
       · rcases List.mem_append.1 h with h | h
         · rcases List.mem_append.1 h with h | h
           · exact hlt.out x h
           · simp at h; omega
         · have := List.eq_of_mem_replicate h; omega
       · exact Sha.be_lt 8 N8 x h
      have hB5 : BS W5 (some ⟨eb, 0, none⟩) 128 128 T := by
       have h1 := Blk.bs (l := T) (c := 128) (pre := []) (post := bv (List.replicate (0) 0)) (by simpa [hT2.out, List.append_assoc] using E5) (by rw [hTl.out]; omega) (by omega) hTlt
       rw [hTl.out] at h1
       exact h1
      have hsum : Hid (Sha.sum l = Sha.out (Sha.blocks (128 / 64) s T)) := by
       show _ = _
       show Sha.out (Sha.blocks ((Sha.tail (l.drop (l.length / 64 * 64)) l.length).length / 64) (Sha.blocks (l.length / 64) Sha.start l) (Sha.tail (l.drop (l.length / 64 * 64)) l.length)) = _
       rw [H'.out.len, hR.out, hMID.out, hT.out, hTl.out]
      have hTab' := Lib.hid hTab; have hS5' := Lib.hid hS5; have hD5' := Lib.hid hD5; have hB5' := Lib.hid hB5; have hWb5' := Lib.hid hWb5; have hs5 := Lib.hid g5.size
      clear hTab hS5 hD5 hB5 hWb5 E5 g5 hTlt

      obtain ⟨FIN, hF⟩ : ∃ FIN, Hid (Sha.blocks (128 / 64) s T = FIN) := ⟨_, rfl⟩
      rw [hF.out] at hsum
      go_wp2_with fail
      go_loopw [6] (fun r wq => ∃ (A : Option Addr) (m cc : Nat) (l2 : List Nat) (s2 : Sha.St), r = .slice A m cc ∧ BS wq A m cc l2 ∧ (∀ ad, A = some ad → ad.block = eb) ∧ s2.Ok ∧ Blk wq sb 211 (wv (stv s2)) ∧ Sha.blocks (m / 64) s2 l2 = FIN ∧ m % 64 = 0 ∧ W5.grownBy wq (some sb))
       (fun r _ => match r with | .slice _ m _ => m | _ => 0)
      case atStart => exact ⟨_, 128, 128, T, s, rfl, hB5'.out, (fun ad e => by cases e; rfl), hok'.out, hS5'.out, hF.out, rfl, World.grownBy.refl W5 _⟩
      case round =>
       obtain ⟨A, q, cc, l2, s2, rfl, hBS, hA, hok, hS, hbl, hq, hG⟩ := hrel
       by_cases h64 : 0 < q
       · have h64' : 64 ≤ q := by omega
         obtain ⟨ad, rfl⟩ : ∃ ad, A = some ad := by
          cases A with
          | none => have := (hBS.nil rfl).1; omega
          | some ad => exact ⟨ad, rfl⟩
         obtain ⟨b, off, rfl, hbw, _⟩ := hBS.cells0
         obtain rfl : b = eb := hA _ rfl
         have hTr : Tabs wr := by
          have hz := HT'.out.1.1
          rw [hdb'.out] at hz
          have h1 := hTab'.out
          exact ⟨⟨Nat.lt_of_lt_of_le h1.1.1 hG.size, fun i x hx => (World.cell?_of_block (hG.block 1 h1.1.1 (fun e => by cases e; omega))).trans (h1.1.2 i x hx)⟩,
           fun i x hx => (World.cell?_of_block (hG.block 0 (by have := h1.1.1; omega) (fun e => by cases e; omega))).trans (h1.2 i x hx)⟩
         have hca := Lib.hid (absorb_q sb b off q cc s2 l2 wr hS hok hBS h64' hTr.1)
         have hcut := hBS.cut h64'
         have hle := hBS.le
         have hmx := hBS.max
         have hG' := Lib.hid hG
         have hbl' : Hid (Sha.blocks ((q - 64) / 64) (Sha.comp s2 (l2.take 64)) (l2.drop 64) = FIN) := by
          show _ = _
          rw [← hbl, show q / 64 = (q - 64) / 64 + 1 by omega]; rfl
         have hcok := Lib.hid (Sha.comp_ok s2 (l2.take 64))
         have c64 : (64 : Int) ≤ (cc : Int) := by omega
         have m64 : (64 : Int) ≤ (q : Int) := by omega
         have hbne : Hid (b ≠ sb) := by show _ ≠ _; omega
         have hq' : Hid ((q - 64) % 64 = 0) := by show _ = _; omega
         clear hG hbl hTr hS hok hBS hA hbw hq
         by_cases ec : cc = 64
         all_goals
          first | (subst ec; obtain rfl : q = 64 := (by omega); rw [if_pos rfl] at hcut) | rw [if_neg ec] at hcut
          have hcut' := Lib.hid hcut
          clear hcut
          go_wp2_with fail
          refine (Hid.out hca).mono ?_
          rintro e w' ⟨rfl, hS2, hG2⟩
          have hS2' := Lib.hid hS2; have hG2' := Lib.hid hG2
          clear hS2 hG2
          go_wp2_with fail
          go_roundw
          case rel => exact ⟨_, _, _, l2.drop 64, Sha.comp s2 (l2.take 64), rfl, hcut'.out.grown hG2'.out (fun ad e => by cases e; exact hbne.out), (fun ad e => by cases e; rfl), hcok.out, hS2'.out, hbl'.out, (by first | rfl | exact hq'.out), grown_trans hG'.out hG2'.out⟩
          case measure => first | (simp; done) | (simp; omega)
       · obtain rfl : q = 0 := by omega
         obtain rfl : s2 = FIN := hbl
         have hS' := Lib.hid hS; have hok2 := Lib.hid hok
         obtain ⟨w6, hw6⟩ : ∃ w6, w6 = wr := ⟨wr, rfl⟩
         have s0 := hS.at_ (i := 0) (x := .int .u32 (s2.a : Int)) rfl
         have s1 := hS.at_ (i := 1) (x := .int .u32 (s2.b : Int)) rfl
         have s2' := hS.at_ (i := 2) (x := .int .u32 (s2.c : Int)) rfl
         have s3 := hS.at_ (i := 3) (x := .int .u32 (s2.d : Int)) rfl
         have s4 := hS.at_ (i := 4) (x := .int .u32 (s2.e : Int)) rfl
         have s5 := hS.at_ (i := 5) (x := .int .u32 (s2.f : Int)) rfl
         have s6 := hS.at_ (i := 6) (x := .int .u32 (s2.g : Int)) rfl
         have s7 := hS.at_ (i := 7) (x := .int .u32 (s2.h : Int)) rfl
         have hD6 : Hid (Blk wr db 32 (bv (List.replicate 32 0))) := Lib.hid (hD5'.out.grown hG (fun e => by cases e; omega))
         have hWb6 : Hid (Below db w wr) := Lib.hid (below_grown hWb5'.out hG (by have := hWb5'.out.size; rw [hdb'.out] at this; exact this) (by omega))
         clear hS hok hBS hA hG
         rw [show ((0 : Nat) : Int) = 0 from rfl] at *
         go_wp2_with fail
         clear s0 s1 s2' s3 s4 s5 s6 s7
         rw [← hw6] at hD6 hWb6 ⊢
         go_loopw [54] (fun i wq => ∃ k : Nat, k ≤ 8 ∧ i = .int .i64 k ∧ Blk wq db 32 (bv ((Sha.out s2).take (4 * k) ++ List.replicate (32 - 4 * k) 0)) ∧ w6.grownBy wq (some db)) (fun i _ => 8 - (intOf i).toNat)
         case atStart => exact ⟨0, by omega, rfl, hD6.out, World.grownBy.refl w6 _⟩
         case round =>
          obtain ⟨k, hk, rfl, hB, hG⟩ := hrel
          by_cases hk8 : k < 8
          · obtain ⟨x, hx⟩ : ∃ x, (stv s2)[k]? = some x := ⟨_, List.getElem?_eq_getElem (show k < 8 from hk8)⟩
            have hix := fun W => index8 s2 k x hx W
            have hxl : x < 4294967296 := stv_lt hok2.out hx
            have hos := Lib.hid (out_step s2 hx)
            have hol := Lib.hid (Sha.out_length s2)
            have e1 : bv ((Sha.out s2).take (4 * k) ++ List.replicate (32 - 4 * k) 0) = bv ((Sha.out s2).take (4 * k)) ++ bv (List.replicate 4 0) ++ bv (List.replicate (32 - 4 * (k + 1)) 0) := by
             rw [bv_append, List.append_assoc, ← bv_append (List.replicate 4 0), List.replicate_append_replicate, show 4 + (32 - 4 * (k + 1)) = 32 - 4 * k by omega]
            have hpl : (bv ((Sha.out s2).take (4 * k))).length = 4 * k := by rw [bv_length, List.length_take, hol.out]; omega
            have hp := put_any db 4 (32 - 4 * k) 32 (bv ((Sha.out s2).take (4 * k))) (bv (List.replicate (32 - 4 * (k + 1)) 0)) (List.replicate 4 0) x wr (by rw [← e1]; exact hB) (by simp) (by omega) (by omega) (by omega) (by omega)
            rw [hpl, ← bv_append, ← hos.out, ← bv_append] at hp
            have hp' := Lib.hid hp
            have hG' := Lib.hid hG
            have x0 : (0 : Int) ≤ (x : Int) := by omega
            have x1 : (x : Int) ≤ 4294967295 := by omega
            have k0 : (0 : Int) ≤ (k : Int) := by omega
            have k1 : (k : Int) < 8 := by omega
            have hsl := slice_dig wr db k hk8
            clear hB hG hp e1 hpl hx hxl
            go_wp2_with fail
            refine (Hid.out hp').mono ?_
            rintro e w' ⟨rfl, hB2, hG2⟩
            have hB2' := Lib.hid hB2; have hG2' := Lib.hid hG2
            clear hB2 hG2
            go_wp2_with fail
            go_roundw
            case rel => exact ⟨k + 1, by omega, by go_num, hB2'.out, grown_trans hG'.out hG2'.out⟩
            case measure => simp [intOf]; omega
          · obtain rfl : k = 8 := by omega
            have hB1 : Blk wr db 32 (bv (Sha.out s2)) := by
             rw [show 4 * 8 = 32 by rfl, Nat.sub_self, List.replicate_zero, List.append_nil, List.take_of_length_le (by rw [Sha.out_length]; omega)] at hB
             exact hB
            have hi32 : (Tryz.prog.info? 32).map (·.size) = some (bv (Sha.out s2)).length := by rw [bv_length, Sha.out_length]; exact size35
            obtain ⟨_, hB3, hG3⟩ := run_store_blk (P := Tryz.prog) (ty := 32) hB1 (vs := bv (Sha.out s2)) rfl hi32 (bv_one _)
            have hB3' := Lib.hid hB3
            have hpost : Hid (DigPost (Sha.sum l) w (.returned (.agg (bv (Sha.out s2)).toArray)) (wr.setCells db 0 (bv (Sha.out s2)))) := by
             refine ⟨by rw [hsum.out], ?_⟩
             rw [hdb'.out]
             exact below_grown (below_grown hWb6.out hG (by have := hWb6.out.size; rw [hdb'.out] at this; exact this) (Nat.le_refl _)) hG3 (by have := hWb6.out.size; rw [hdb'.out] at this; exact Nat.le_trans this hG.size) (Nat.le_refl _)
            have hrg := Lib.hid hB1.range
            have hth := Lib.hid hB1.there
            have hone := Lib.hid (bv_one (Sha.out s2))
            have hi32' := Lib.hid hi32
            clear hB hB3 hG3 hG hi32 hB1
            generalize bv (Sha.out s2) = OUT at *
            go_wp2_with (first
             | (refine wpList_load_mid (by rfl) 32 (.tmp 2) (by rfl) db 0 (by rfl) OUT _ (Hid.out hrg) Tryz.underlying32 (by rfl) (Hid.out hi32') ?_)
              | (refine wpList_store_mid (by rfl) 32 (.tmp 2) (.tmp 68) (by rfl) db 0 OUT.toArray (by rfl) (by rfl) (by rw [List.size_toArray]; exact Hid.out hth) (by rw [List.size_toArray]; exact Hid.out hi32') (by simpa using Hid.out hone) ?_))
            exact bodyPost_ret (results_cell_row rfl _ _ db 32 OUT.toArray (0, 0) _ rfl hB3'.out Tryz.underlying32 rfl (by rw [List.size_toArray]; exact Hid.out hi32')) rfl hpost.out
    · have hbg : decide ((55 : Int) < (m : Int)) = false := by simp; omega
      have e1 : bv (l' ++ [128] ++ List.replicate (127 - m) 0) = bv (l' ++ [128] ++ List.replicate (64 - 9 - m) 0) ++ bv (List.replicate 8 0) ++ bv (List.replicate (64) 0) := by
       rw [← bv_append, ← bv_append]
       congr 1
       rw [List.append_assoc (l' ++ [128]), List.append_assoc (l' ++ [128]), List.replicate_append_replicate, List.replicate_append_replicate]
       congr 2; omega
      have hpl : (bv (l' ++ [128] ++ List.replicate (64 - 9 - m) 0)).length = 56 := by rw [bv_length, List.length_append, List.length_append, hlen.out, List.length_replicate, List.length_singleton]; omega
      have hT2 : Hid (T = l' ++ [128] ++ List.replicate (64 - 9 - m) 0 ++ Sha.be 8 N8) := by
       show _ = _
       rw [← hT.out, ← hN8.out]
       unfold Sha.tail
       rw [hlen.out, if_neg hbig]
      have hTl : Hid (T.length = 64) := by
       show _ = _
       rw [hT2.out, List.length_append, Sha.be_length]
       have := hpl
       rw [bv_length] at this
       omega
      have hp := put_any eb 8 72 5 (bv (l' ++ [128] ++ List.replicate (64 - 9 - m) 0)) (bv (List.replicate (64) 0)) (List.replicate 8 0) N8 W4 (by rw [← e1]; exact E4.out) (by simp) (by omega) (by omega) (by omega) (by omega)
      rw [hpl, ← bv_append, ← hT2.out] at hp
      have hp' := Lib.hid hp
      clear hp e1 hpl
      go_wp2_with fail
      rw [← hW4]
      refine (Hid.out hp').mono ?_
      rintro e W5 ⟨rfl, E5, g5⟩
      have hs4 : eb < W4.heap.size := by rw [hW4]; simp [hs3'.out, hs2'.out]
      have hWb5 : Below db w W5 := below_grown (below_grown hWb2'.out hg24.out (by rw [hs2'.out]; omega) (by omega)) g5 (by omega) (by omega)
      have hTab : Tabs W5 := HT'.out.below (by rw [hdb'.out]; exact hWb5)
      have hS5 := (hS2'.out.grown hg24.out (fun e => by cases e; omega)).grown g5 (fun e => by cases e; omega)
      have hD5 := (hD2'.out.grown hg24.out (fun e => by cases e; omega)).grown g5 (fun e => by cases e; omega)
      have hTlt : ∀ x ∈ T, x < 256 := by
       intro x hx
       rw [hT2.out] at hx
       rcases List.mem_append.1 hx with h | h
       · rcases List.mem_append.1 h with h | h
         · rcases List.mem_append.1 h with h | h
           · exact hlt.out x h
           · simp at h; omega
         · have := List.eq_of_mem_replicate h; omega
       · exact Sha.be_lt 8 N8 x h
      have hB5 : BS W5 (some ⟨eb, 0, none⟩) 64 128 T := by
       have h1 := Blk.bs (l := T) (c := 128) (pre := []) (post := bv (List.replicate (64) 0)) (by simpa [hT2.out, List.append_assoc] using E5) (by rw [hTl.out]; omega) (by omega) hTlt
       rw [hTl.out] at h1
       exact h1
      have hsum : Hid (Sha.sum l = Sha.out (Sha.blocks (64 / 64) s T)) := by
       show _ = _
       show Sha.out (Sha.blocks ((Sha.tail (l.drop (l.length / 64 * 64)) l.length).length / 64) (Sha.blocks (l.length / 64) Sha.start l) (Sha.tail (l.drop (l.length / 64 * 64)) l.length)) = _
       rw [H'.out.len, hR.out, hMID.out, hT.out, hTl.out]
      have hTab' := Lib.hid hTab; have hS5' := Lib.hid hS5; have hD5' := Lib.hid hD5; have hB5' := Lib.hid hB5; have hWb5' := Lib.hid hWb5; have hs5 := Lib.hid g5.size
      clear hTab hS5 hD5 hB5 hWb5 E5 g5 hTlt

      obtain ⟨FIN, hF⟩ : ∃ FIN, Hid (Sha.blocks (64 / 64) s T = FIN) := ⟨_, rfl⟩
      rw [hF.out] at hsum
      go_wp2_with fail
      go_loopw [6] (fun r wq => ∃ (A : Option Addr) (m cc : Nat) (l2 : List Nat) (s2 : Sha.St), r = .slice A m cc ∧ BS wq A m cc l2 ∧ (∀ ad, A = some ad → ad.block = eb) ∧ s2.Ok ∧ Blk wq sb 211 (wv (stv s2)) ∧ Sha.blocks (m / 64) s2 l2 = FIN ∧ m % 64 = 0 ∧ W5.grownBy wq (some sb))
       (fun r _ => match r with | .slice _ m _ => m | _ => 0)
      case atStart => exact ⟨_, 64, 128, T, s, rfl, hB5'.out, (fun ad e => by cases e; rfl), hok'.out, hS5'.out, hF.out, rfl, World.grownBy.refl W5 _⟩
      case round =>
       obtain ⟨A, q, cc, l2, s2, rfl, hBS, hA, hok, hS, hbl, hq, hG⟩ := hrel
       by_cases h64 : 0 < q
       · have h64' : 64 ≤ q := by omega
         obtain ⟨ad, rfl⟩ : ∃ ad, A = some ad := by
          cases A with
          | none => have := (hBS.nil rfl).1; omega
          | some ad => exact ⟨ad, rfl⟩
         obtain ⟨b, off, rfl, hbw, _⟩ := hBS.cells0
         obtain rfl : b = eb := hA _ rfl
         have hTr : Tabs wr := by
          have hz := HT'.out.1.1
          rw [hdb'.out] at hz
          have h1 := hTab'.out
          exact ⟨⟨Nat.lt_of_lt_of_le h1.1.1 hG.size, fun i x hx => (World.cell?_of_block (hG.block 1 h1.1.1 (fun e => by cases e; omega))).trans (h1.1.2 i x hx)⟩,
           fun i x hx => (World.cell?_of_block (hG.block 0 (by have := h1.1.1; omega) (fun e => by cases e; omega))).trans (h1.2 i x hx)⟩
         have hca := Lib.hid (absorb_q sb b off q cc s2 l2 wr hS hok hBS h64' hTr.1)
         have hcut := hBS.cut h64'
         have hle := hBS.le
         have hmx := hBS.max
         have hG' := Lib.hid hG
         have hbl' : Hid (Sha.blocks ((q - 64) / 64) (Sha.comp s2 (l2.take 64)) (l2.drop 64) = FIN) := by
          show _ = _
          rw [← hbl, show q / 64 = (q - 64) / 64 + 1 by omega]; rfl
         have hcok := Lib.hid (Sha.comp_ok s2 (l2.take 64))
         have c64 : (64 : Int) ≤ (cc : Int) := by omega
         have m64 : (64 : Int) ≤ (q : Int) := by omega
         have hbne : Hid (b ≠ sb) := by show _ ≠ _; omega
         have hq' : Hid ((q - 64) % 64 = 0) := by show _ = _; omega
         clear hG hbl hTr hS hok hBS hA hbw hq
         by_cases ec : cc = 64
         all_goals
          first | (subst ec; obtain rfl : q = 64 := (by omega); rw [if_pos rfl] at hcut) | rw [if_neg ec] at hcut
          have hcut' := Lib.hid hcut
          clear hcut
          go_wp2_with fail
          refine (Hid.out hca).mono ?_
          rintro e w' ⟨rfl, hS2, hG2⟩
          have hS2' := Lib.hid hS2; have hG2' := Lib.hid hG2
          clear hS2 hG2
          go_wp2_with fail
          go_roundw
          case rel => exact ⟨_, _, _, l2.drop 64, Sha.comp s2 (l2.take 64), rfl, hcut'.out.grown hG2'.out (fun ad e => by cases e; exact hbne.out), (fun ad e => by cases e; rfl), hcok.out, hS2'.out, hbl'.out, (by first | rfl | exact hq'.out), grown_trans hG'.out hG2'.out⟩
          case measure => first | (simp; done) | (simp; omega)
       · obtain rfl : q = 0 := by omega
         obtain rfl : s2 = FIN := hbl
         have hS' := Lib.hid hS; have hok2 := Lib.hid hok
         obtain ⟨w6, hw6⟩ : ∃ w6, w6 = wr := ⟨wr, rfl⟩
         have s0 := hS.at_ (i := 0) (x := .int .u32 (s2.a : Int)) rfl
         have s1 := hS.at_ (i := 1) (x := .int .u32 (s2.b : Int)) rfl
         have s2' := hS.at_ (i := 2) (x := .int .u32 (s2.c : Int)) rfl
         have s3 := hS.at_ (i := 3) (x := .int .u32 (s2.d : Int)) rfl
         have s4 := hS.at_ (i := 4) (x := .int .u32 (s2.e : Int)) rfl
         have s5 := hS.at_ (i := 5) (x := .int .u32 (s2.f : Int)) rfl
         have s6 := hS.at_ (i := 6) (x := .int .u32 (s2.g : Int)) rfl
         have s7 := hS.at_ (i := 7) (x := .int .u32 (s2.h : Int)) rfl
         have hD6 : Hid (Blk wr db 32 (bv (List.replicate 32 0))) := Lib.hid (hD5'.out.grown hG (fun e => by cases e; omega))
         have hWb6 : Hid (Below db w wr) := Lib.hid (below_grown hWb5'.out hG (by have := hWb5'.out.size; rw [hdb'.out] at this; exact this) (by omega))
         clear hS hok hBS hA hG
         rw [show ((0 : Nat) : Int) = 0 from rfl] at *
         go_wp2_with fail
         clear s0 s1 s2' s3 s4 s5 s6 s7
         rw [← hw6] at hD6 hWb6 ⊢
         go_loopw [54] (fun i wq => ∃ k : Nat, k ≤ 8 ∧ i = .int .i64 k ∧ Blk wq db 32 (bv ((Sha.out s2).take (4 * k) ++ List.replicate (32 - 4 * k) 0)) ∧ w6.grownBy wq (some db)) (fun i _ => 8 - (intOf i).toNat)
         case atStart => exact ⟨0, by omega, rfl, hD6.out, World.grownBy.refl w6 _⟩
         case round =>
          obtain ⟨k, hk, rfl, hB, hG⟩ := hrel
          by_cases hk8 : k < 8
          · obtain ⟨x, hx⟩ : ∃ x, (stv s2)[k]? = some x := ⟨_, List.getElem?_eq_getElem (show k < 8 from hk8)⟩
            have hix := fun W => index8 s2 k x hx W
            have hxl : x < 4294967296 := stv_lt hok2.out hx
            have hos := Lib.hid (out_step s2 hx)
            have hol := Lib.hid (Sha.out_length s2)
            have e1 : bv ((Sha.out s2).take (4 * k) ++ List.replicate (32 - 4 * k) 0) = bv ((Sha.out s2).take (4 * k)) ++ bv (List.replicate 4 0) ++ bv (List.replicate (32 - 4 * (k + 1)) 0) := by
             rw [bv_append, List.append_assoc, ← bv_append (List.replicate 4 0), List.replicate_append_replicate, show 4 + (32 - 4 * (k + 1)) = 32 - 4 * k by omega]
            have hpl : (bv ((Sha.out s2).take (4 * k))).length = 4 * k := by rw [bv_length, List.length_take, hol.out]; omega
            have hp := put_any db 4 (32 - 4 * k) 32 (bv ((Sha.out s2).take (4 * k))) (bv (List.replicate (32 - 4 * (k + 1)) 0)) (List.replicate 4 0) x wr (by rw [← e1]; exact hB) (by simp) (by omega) (by omega) (by omega) (by omega)
            rw [hpl, ← bv_append, ← hos.out, ← bv_append] at hp
            have hp' := Lib.hid hp
            have hG' := Lib.hid hG
            have x0 : (0 : Int) ≤ (x : Int) := by omega
            have x1 : (x : Int) ≤ 4294967295 := by omega
            have k0 : (0 : Int) ≤ (k : Int) := by omega
            have k1 : (k : Int) < 8 := by omega
            have hsl := slice_dig wr db k hk8
            clear hB hG hp e1 hpl hx hxl
            go_wp2_with fail
            refine (Hid.out hp').mono ?_
            rintro e w' ⟨rfl, hB2, hG2⟩
            have hB2' := Lib.hid hB2; have hG2' := Lib.hid hG2
            clear hB2 hG2
            go_wp2_with fail
            go_roundw
            case rel => exact ⟨k + 1, by omega, by go_num, hB2'.out, grown_trans hG'.out hG2'.out⟩
            case measure => simp [intOf]; omega
          · obtain rfl : k = 8 := by omega
            have hB1 : Blk wr db 32 (bv (Sha.out s2)) := by
             rw [show 4 * 8 = 32 by rfl, Nat.sub_self, List.replicate_zero, List.append_nil, List.take_of_length_le (by rw [Sha.out_length]; omega)] at hB
             exact hB
            have hi32 : (Tryz.prog.info? 32).map (·.size) = some (bv (Sha.out s2)).length := by rw [bv_length, Sha.out_length]; exact size35
            obtain ⟨_, hB3, hG3⟩ := run_store_blk (P := Tryz.prog) (ty := 32) hB1 (vs := bv (Sha.out s2)) rfl hi32 (bv_one _)
            have hB3' := Lib.hid hB3
            have hpost : Hid (DigPost (Sha.sum l) w (.returned (.agg (bv (Sha.out s2)).toArray)) (wr.setCells db 0 (bv (Sha.out s2)))) := by
             refine ⟨by rw [hsum.out], ?_⟩
             rw [hdb'.out]
             exact below_grown (below_grown hWb6.out hG (by have := hWb6.out.size; rw [hdb'.out] at this; exact this) (Nat.le_refl _)) hG3 (by have := hWb6.out.size; rw [hdb'.out] at this; exact Nat.le_trans this hG.size) (Nat.le_refl _)
            have hrg := Lib.hid hB1.range
            have hth := Lib.hid hB1.there
            have hone := Lib.hid (bv_one (Sha.out s2))
            have hi32' := Lib.hid hi32
            clear hB hB3 hG3 hG hi32 hB1
            generalize bv (Sha.out s2) = OUT at *
            go_wp2_with (first
             | (refine wpList_load_mid (by rfl) 32 (.tmp 2) (by rfl) db 0 (by rfl) OUT _ (Hid.out hrg) Tryz.underlying32 (by rfl) (Hid.out hi32') ?_)
              | (refine wpList_store_mid (by rfl) 32 (.tmp 2) (.tmp 68) (by rfl) db 0 OUT.toArray (by rfl) (by rfl) (by rw [List.size_toArray]; exact Hid.out hth) (by rw [List.size_toArray]; exact Hid.out hi32') (by simpa using Hid.out hone) ?_))
            exact bodyPost_ret (results_cell_row rfl _ _ db 32 OUT.toArray (0, 0) _ rfl hB3'.out Tryz.underlying32 rfl (by rw [List.size_toArray]; exact Hid.out hi32')) rfl hpost.out
end Go.Proofs.YtnonfdcbnkdmcaaGreatDoor
