/- the reference 02: Sum, Tagged the references 04, 05: Rest, Scalar, Bytes, Challenge, Verify the reference 05: Verify, Private, Public, Sign -/
import Derived.Test.YtnonfdcbnkdmcaaGreatDoorAl
import Derived.Test.YtnonfdcbnkdmcaaGreatDoorRfB
import Derived.OrdersHeld
import Derived.Deep.RegionHeld3
import Derived.Test.YtnonfdcbnkdmcaaGreatDoorSgn3
import Derived.KernelRfl
import Derived.Laws.ResultCell
import Derived.Deep.MidRow
namespace Go.Proofs.YtnonfdcbnkdmcaaGreatDoor
open Go.RowKit Go.Mem

def SumW (w : World) (tb : Nat) (s : Sha.St) (b off _pc : Nat) (P : List Nat) (wz : World) : Prop :=
 Blk wz (tb + 1) 210 (wv (stv s)) ∧ Blk wz tb 32 (bv (List.replicate 32 0)) ∧ (tb + 1 < b ∧ b < wz.heap.size ∧ ∀ (i : Nat) x, P[i]? = some x → wz.cell? ⟨b, off + i, none⟩ = some (.int .u8 (x : Int))) ∧ Below w.heap.size w wz ∧ w.heap.size ≤ tb
section
variable {w wz wq : World} {tb : Nat} {s s2 : Sha.St} {b off pc : Nat} {P : List Nat}
theorem SumW.next (hb : Below wz.heap.size wz wq) (h : SumW w tb s b off pc P wz) : SumW w tb s b off pc P wq :=
 ⟨h.1.below hb h.1.lt, h.2.1.below hb h.2.1.lt, ⟨h.2.2.1.1, Nat.lt_of_lt_of_le h.2.2.1.2.1 hb.size, fun i x hx => (hb.cell (p := ⟨b, off + i, none⟩) h.2.2.1.2.1).trans (h.2.2.1.2.2 i x hx)⟩, h.2.2.2.1.trans (hb.mono (Nat.le_trans h.2.2.2.2 (by have := h.2.1.lt; omega))), h.2.2.2.2⟩
theorem SumW.drewN (n : Nat) (h : SumW w tb s b off pc P wz) : SumW w tb s b off pc P (wz.drewN n) := h.next (Go.Mem.below_drewN _ _ _)
theorem SumW.grown (hg : wz.grownBy wq (some (tb + 1))) (hB : Blk wq (tb + 1) 210 (wv (stv s2))) (h : SumW w tb s b off pc P wz) : SumW w tb s2 b off pc P wq :=
 ⟨hB, h.2.1.grown hg (fun e => by injection e with e; omega), ⟨h.2.2.1.1, Nat.lt_of_lt_of_le h.2.2.1.2.1 hg.size, fun i x hx => (World.cell?_of_block (hg.block b h.2.2.1.2.1 (by have := h.2.2.1.1; intro e; injection e with e; omega))).trans (h.2.2.1.2.2 i x hx)⟩,
  below_grown h.2.2.2.1 hg (by have := h.2.1.lt; have := h.2.2.2.2; omega) (by have := h.2.2.2.2; omega), h.2.2.2.2⟩
theorem SumW.put {ty : TypeId} (hP : Put ty wz (tb + 1) 210 (wv (stv s2))) (h : SumW w tb s b off pc P wz) : SumW w tb s2 b off pc P (wz.setCells (tb + 1) 0 (wv (stv s2))) := h.grown hP.grw hP.blk
end
set_option maxHeartbeats 4000000 in
set_option maxRecDepth 100000 in
theorem r2sum_any (a : Option Addr) (n c : Nat) (l : List Nat) (w : World) (H : BW w a n c l) (hn : n ≤ 140737488355000) :
 Calls Tryz.prog 175 #[.slice a n c] w (DigPost (Sha.sum l) w) := by
 obtain ⟨X, hX⟩ : ∃ X, Hid (X = DigPost (Sha.sum l) w) := ⟨_, rfl⟩
 rw [← hX.out]
 obtain ⟨tb, htb⟩ : ∃ tb, Hid (w.heap.size = tb) := ⟨_, rfl⟩
 obtain ⟨ZR, hZR⟩ : ∃ ZR, Hid (wv (stv Sha.start) = ZR) := ⟨_, rfl⟩
 have hz1 : ∀ u ∈ ZR, u.oneCell' = true := by rw [← hZR.out]; exact wv_one _
 have hzl : ZR.length = 8 := by rw [← hZR.out]; rfl
 have hHH := Lib.hid H
 have hlen := Lib.hid H.len
 have hltl := Lib.hid H.lt
 clear H
 go_enter Tryz.func175, Tryz.ntmps175
 go_upto_region 1 with fail
 rw [htb.out]
 obtain ⟨W0, hW0⟩ : ∃ W0, W0 = w.alloc (.cells (bv (List.replicate 32 0)).toArray 32) := ⟨_, rfl⟩
 have hs0 : W0.heap.size = tb + 1 := by rw [hW0, ← htb.out]; simp
 show Code.wp _ _ _ _ (w.alloc (.cells (bv (List.replicate 32 0)).toArray 32))
 rw [← hW0]
 have D0 : Blk W0 tb 32 (bv (List.replicate 32 0)) := by rw [hW0, ← htb.out]; exact Blk.new w _ _
 have b0 : Below tb w W0 := by rw [hW0, ← htb.out]; exact (Below.refl _ w).alloc (Nat.le_refl _) _
 clear hW0
 have S0 : Blk (W0.alloc (.cells (wv (List.replicate 8 0)).toArray 210)) (tb + 1) 210 (wv (List.replicate 8 0)) := hs0 ▸ Blk.new W0 _ _
 have hP := Lib.hid (Put.mk' (ty := 210) (RES := ZR) S0 (by rw [hzl]; rfl) (by rw [hzl]; exact size8) hz1)
 have D1 := Lib.hid (D0.alloc (.cells (wv (List.replicate 8 0)).toArray 210))
 have b1 := Lib.hid (b0.alloc (by omega) (.cells (wv (List.replicate 8 0)).toArray 210))
 clear S0 D0 b0 hz1 hzl
 go_upto_region 2 with (first
  | (refine wpList_buildTo (by rfl) 210 _ rfl (some 8) rfl ZR.toArray (by rw [← hZR.out]; kernel_rfl) ?_)
   | (refine wpList_store_mid (by rfl) 210 (.tmp 3) (.tmp 8) (by rfl) (tb + 1) 0 ZR.toArray (by rfl) (by rfl) hP.out.th hP.out.inf hP.out.one ?_))
 try simp only [Act.put]
 generalize hW2 : World.setCells _ _ _ _ = W2
 have D2 : Hid (Blk W2 tb 32 (bv (List.replicate 32 0))) := by rw [← hW2]; exact D1.out.grown hP.out.grw (by intro e; cases e)
 have S2 : Hid (Blk W2 (tb + 1) 210 (wv (stv Sha.start))) := by rw [← hW2, hZR.out]; exact hP.out.blk
 have b2 : Hid (Below tb w W2) := by rw [← hW2]; exact below_grown b1.out hP.out.grw (by have := D1.out.lt; omega) (by omega)
 have h2' : Hid (BW W2 a n c l) := by have := b2.out; rw [← htb.out] at this; exact hHH.out.below this
 clear hW2 hP D1 b1 hs0 hHH
 go_wp2_with fail
 refine (r2padded_any a n c l W2 h2'.out hn).mono ?_
 rintro e W3 ⟨v, rfl, ho, hb3⟩
 obtain ⟨P, hPP⟩ : ∃ P, Hid (Sha.padded l = P) := ⟨_, rfl⟩
 have hPl : Hid (P.length % 64 = 0 ∧ 64 ≤ P.length ∧ P.length ≤ 140737488355300) := by
  show _ ∧ _; rw [← hPP.out]
  have h1 := Sha.padded_mod l; have h2 := Sha.padded_length l; have h3 := Sha.zeros_lt l.length; have := hlen.out
  omega
 have hPt : Hid (∀ x ∈ P, x < 256) := by rw [← hPP.out]; exact Sha.padded_lt l hltl.out
 have hPs : Hid (Sha.out (Sha.blocks (P.length / 64) Sha.start P) = Sha.sum l) := by show _ = _; rw [← hPP.out]; exact Sha.sum_padded l
 rw [hPP.out] at ho
 obtain ⟨pa, pc, rfl, hBS⟩ := BS.own ho.1 ho.2
 have hown := World.ownsRow.lt ho.1
 obtain ⟨NP, hNP⟩ : ∃ NP, Hid (P.length = NP) := ⟨_, rfl⟩
 rw [hNP.out] at hPl hPs hBS ho ⊢
 obtain ⟨b, off, rfl, hbW : Hid (SumW w tb Sha.start b off pc P W3), hpc⟩ : ∃ b off, pa = some ⟨b, off, none⟩ ∧ Hid (SumW w tb Sha.start b off pc P W3) ∧ NP ≤ pc ∧ pc ≤ 9223372036854775807 := by
  cases pa with
  | none => have := (hBS.nil rfl).1; have := hPl.out.2.1; omega
  | some ad =>
   obtain ⟨b, off, rfl, hbs, hcs⟩ := hBS.cells0
   have hlt := (hown b rfl).1
   exact ⟨b, off, rfl, ⟨S2.out.below hb3 S2.out.lt, D2.out.below hb3 D2.out.lt, ⟨by have := S2.out.lt; omega, hbs, hcs⟩, by rw [htb.out]; exact b2.out.trans (hb3.mono (by have := S2.out.lt; omega)), Nat.le_of_eq htb.out⟩, hBS.le, hBS.max⟩
 clear ho hBS hown hb3 D2 S2 b2 h2' hPP hlen hltl hZR
 go_wp2_with fail
 go_loopw [5] (fun i wr => ∃ (k : Nat) (s : Sha.St), 64 * k ≤ NP ∧ i = .int .i64 ((64 * k : Nat) : Int) ∧ s = Sha.blocks k Sha.start P ∧ Hid (SumW w tb s b off pc P wr)) (fun i _ => NP - (intOf i).toNat)
 case atStart => exact ⟨0, _, by omega, rfl, rfl, hbW⟩
 case round =>
  obtain ⟨k, s, hk, rfl, hs, hSW⟩ := hrel
  have hsH := Lib.hid hs
  clear hs hbW
  by_cases hlt : 64 * k < NP
  · have hle : 64 * k + 64 ≤ NP := by have := hPl.out.1; omega
    obtain ⟨kn, hkn⟩ : ∃ kn, Hid (64 * k = kn) := ⟨_, rfl⟩
    rw [hkn.out] at hk hlt hle ⊢
    have k0 : (0 : Int) ≤ (kn : Int) := by omega
    have k1 : (kn : Int) < (NP : Int) := by omega
    have hwr : Hid (IntKind.i64.wrap ((kn : Int) + 64) = (kn : Int) + 64) := IntWalk.i64_in _ ⟨by omega, by omega⟩
    obtain ⟨s2, hs2⟩ : ∃ s2, Hid (Sha.comp s ((P.drop (kn)).take 64) = s2) := ⟨_, rfl⟩
    have hsn := hs2
    have hpl : Hid (((P.drop (kn)).take 64).length = 64) := by show _ = _; rw [List.length_take, List.length_drop, hNP.out]; omega
    have hplt : Hid (∀ x ∈ (P.drop (kn)).take 64, x < 256) := fun x hx => hPt.out x (List.mem_of_mem_drop (List.mem_of_mem_take hx))
    have hok : Hid s.Ok := by rw [hsH.out]; exact Sha.blocks_ok Sha.start_ok k P
    go_wp2_with fail
    refine wp_region_held_drew (S := fun wz => True) (by kernel_rfl) (trivial) (fun hHeld => ?_)
    have hSW1 : SumW w tb s b off pc P wr.drew := SumW.drewN 1 hSW.out
    generalize wr.drew = wz at *
    refine tQ 1 rfl hHeld ?_
    refine tQ 2 rfl hHeld ?_
    refine tQ 3 rfl hHeld ?_
    refine tQ 4 rfl hHeld ?_
    refine tG 5 (v := .slice (some ⟨b, off + kn, none⟩) 64 (pc - kn)) rfl (Or.inl ⟨by rfl, ?_⟩) hHeld ?_
    · intro wz hSw
      go_simp
      rw [hwr.out, if_pos ⟨by omega, by omega⟩, if_pos (by omega)]
      have e1 : ((kn : Int) + 64).toNat - kn = 64 := by omega
      have e2 : ¬ pc = kn := by omega
      first | rw [Int.toNat_natCast, e1, if_neg e2] | rw [e1, if_neg e2] | skip
    try simp only [Act.put, sA, s0, s1]
    refine tO 0 rfl (fun K hK => ?_)
    refine wp_load_mid 210 _ rfl (tb + 1) 0 rfl (wv (stv s)) _ hSW1.1.range Tryz.underlying210 rfl size8 ?_
    refine hK.out _ _ trivial (fun hHeld => ?_)
    clear hK K
    try simp only [Act.put, sA, s0, s1]
    refine tO 6 rfl (fun K hK => ?_)
    go_simp
    go_at_call 204
    refine (r2block_any b (off + kn) (pc - kn) s ((P.drop kn).take 64) wz hok.out (fun i x hi => ?_) hpl.out hplt.out hSW1.2.2.1.2.1 (by omega) (by omega)).mono ?_
    · have hi4 : i < 64 := by have := (List.getElem?_eq_some_iff.1 hi).1; rw [hpl.out] at this; exact this
      rw [List.getElem?_take_of_lt hi4, List.getElem?_drop] at hi
      rw [Nat.add_assoc]
      exact hSW1.2.2.1.2.2 _ x hi
    rintro e wq ⟨rfl, hbq⟩
    rw [hsn.out]
    have hSWq := SumW.next hbq hSW1
    refine hK.out _ _ trivial (fun hHeld => ?_)
    clear hbq hSW1
    clear hK K
    try simp only [Act.put, sA, s0, s1]
    refine tO 7 rfl (fun K hK => ?_)
    have hP := Put.mk' (ty := 210) (RES := wv (stv s2)) hSWq.1 (by rfl) size8 (wv_one _)
    refine wp_store_mid 210 _ _ rfl (tb + 1) 0 (wv (stv s2)).toArray (by rfl) (by rfl) hP.th hP.inf hP.one ?_
    have hSW2 : Hid (SumW w tb s2 b off pc P (wq.setCells (tb + 1) 0 (wv (stv s2)))) := SumW.put hP hSWq
    refine hK.out _ _ trivial (fun hHeld => ?_)
    clear hP hSWq
    clear hK K
    try simp only [Act.put]
    refine wpAnyH_done (by kernel_rfl) ?_ _
    clear hSW
    go_wp2_with fail
    go_roundw
    case rel => exact ⟨k + 1, s2, by have := hkn.out; omega, by have := hkn.out; congr 1; omega, by rw [Sha.blocks_snoc, hkn.out, ← hsH.out, hs2.out], hSW2⟩
    case measure => simp [intOf]; omega
  · have hkN : 64 * k = NP := by omega
    have hs2 : Hid (Sha.out s = Sha.sum l) := by show _ = _; rw [← hPs.out, ← hkN, Nat.mul_div_cancel_left _ (by omega), hsH.out]
    rw [hkN]
    clear hkN hk hlt hPs hPl hNP hpc hsH hPt
    obtain ⟨Z, hZ⟩ : ∃ Z, Hid (bv (List.replicate 32 0) = Z) := ⟨_, rfl⟩
    have hZl : Z.length = 32 := by rw [← hZ.out, bv_length, List.length_replicate]
    have hZ1 : ∀ u ∈ Z, u.oneCell' = true := by rw [← hZ.out]; exact bv_one _
    obtain ⟨db, hdb⟩ : ∃ db, Hid (wr.heap.size = db) := ⟨_, rfl⟩
    have hdbl : tb + 1 < db := by rw [← hdb.out]; exact hSW.out.1.lt
    have A0 : Hid (SumW w tb s b off pc P (wr.alloc (.cells (bv (List.replicate 32 0)).toArray 32))) := SumW.next ((Below.refl _ wr).alloc (Nat.le_refl _) _) hSW.out
    have hP := Lib.hid (Put.mk' (ty := 32) (RES := Z) (Blk.new wr 32 (bv (List.replicate 32 0))) (by rw [hZl]; rfl) (by rw [hZl]; exact size35) hZ1)
    rw [hdb.out] at hP
    clear hZl hZ1 hSW
    go_upto_region 8 with (first
     | (refine wpList_buildTo (by rfl) 32 _ rfl (some 24) rfl Z.toArray (by rw [← hZ.out]; kernel_rfl) ?_)
      | (rw [hdb.out]; refine wpList_store_mid (by rfl) 32 (.tmp 6) (.tmp 24) (by rfl) db 0 Z.toArray (by rfl) (by rfl) hP.out.th hP.out.inf hP.out.one ?_))
    try simp only [Act.put]
    generalize hW8 : World.setCells _ _ _ _ = W8
    have hbv0 : Hid (Below w.heap.size w W8) := by
     have h := A0.out
     rw [← hW8]; exact below_grown h.2.2.2.1 hP.out.grw (by have := h.2.1.lt; have := h.2.2.2.2; omega) (by have := h.2.2.2.2; omega)
    have D8 : Hid (Blk W8 db 32 (bv (List.replicate 32 0))) := by rw [← hW8, hZ.out]; exact hP.out.blk
    have S8 : Hid (Blk W8 (tb + 1) 210 (wv (stv s))) := by rw [← hW8]; exact A0.out.1.grown hP.out.grw (fun e => by injection e with e; omega)
    have R8 : Hid (Blk W8 tb 32 (bv (List.replicate 32 0))) := by rw [← hW8]; exact A0.out.2.1.grown hP.out.grw (fun e => by injection e with e; omega)
    have htw : w.heap.size ≤ tb := A0.out.2.2.2.2
    clear hW8 hP A0 hZ
    go_wp2_with fail
    go_loopw [7] (fun i wq => ∃ k : Nat, k ≤ 32 ∧ i = .int .i64 (k : Int) ∧ Hid (Blk wq db 32 (bv ((Sha.out s).take k ++ List.replicate (32 - k) 0))) ∧ Hid (Blk wq (tb + 1) 210 (wv (stv s))) ∧ Hid (Blk wq tb 32 (bv (List.replicate 32 0))) ∧ Hid (Below w.heap.size w wq)) (fun i _ => 32 - (intOf i).toNat)
    case atStart => exact ⟨0, by omega, rfl, D8, S8, R8, hbv0⟩
    case round =>
     obtain ⟨k, hk, rfl, hD, hS, hR, hb⟩ := hrel
     clear D8 S8 R8 hbv0
     by_cases hlt : k < 32
     · have k0 : (0 : Int) ≤ (k : Int) := by omega
       have k1 : (k : Int) < 32 := by omega
       obtain ⟨x, hx, ho⟩ := out_at s k hlt
       have hoL := (List.getElem?_eq_some_iff.1 ho).1
       obtain ⟨q, hq⟩ : ∃ q, k / 4 = q := ⟨_, rfl⟩
       obtain ⟨r, hr⟩ : ∃ r, k % 4 = r := ⟨_, rfl⟩
       rw [hq] at hx
       rw [hr] at ho
       have cS := hS.out.at_ (wv_get hx)
       have hq1 : Int.tdiv (k : Int) 4 = (q : Int) := by rw [Int.tdiv_eq_ediv_of_nonneg (by omega)]; omega
       have hr1 : Int.tmod (k : Int) 4 = (r : Int) := by rw [Int.tmod_eq_emod_of_nonneg (by omega)]; omega
       have q0 : (q : Int) < 8 := by omega
       have q00 : (0 : Int) ≤ (q : Int) := by omega
       have r0 : (r : Int) ≤ 3 := by omega
       have r00 : (0 : Int) ≤ (r : Int) := by omega
       obtain ⟨y, hy⟩ : ∃ y, x / 2 ^ (24 - 8 * r) % 256 = y := ⟨_, rfl⟩
       rw [hy] at ho
       have hbv : (x : Int) / 2 ^ (24 - 8 * r) % 256 = (y : Int) := by rw [← hy]; push_cast; rfl
       have hfs := Lib.hid (Sha.fill_step (Sha.out s) k 32 y hlt ho)
       have c0 := hD.out.at_ (i := k) (x := .int .u8 ((0 : Nat) : Int)) (bv_get (by
        rw [List.getElem?_append_right (by rw [List.length_take]; omega), List.length_take, Sha.out_length, Nat.min_eq_left (by omega), Nat.sub_self]
        rw [List.getElem?_replicate, if_pos (by omega)]))
       have f0 := hD.out.frozen k
       clear hx ho hoL hq hr hy
       go_wp2_with fail
       go_roundw
       case rel =>
        refine ⟨k + 1, by omega, by go_num, ?_, hS.out.far (by show tb + 1 ≠ db; omega) _, hR.out.far (by show tb ≠ db; omega) _, hb.out.setCell (p := ⟨db, k, none⟩) (by show w.heap.size ≤ db; omega) _⟩
        show Blk _ _ _ _
        rw [← hfs.out, ← bv_set]; exact hD.out.set k _
       case measure => simp [intOf]; omega
     · obtain rfl : k = 32 := by omega
       rw [List.take_of_length_le (by rw [Sha.out_length]; omega), hs2.out, Nat.sub_self, List.replicate_zero, List.append_nil] at hD
       obtain ⟨D, hDD⟩ : ∃ D, Hid (bv (Sha.sum l) = D) := ⟨_, rfl⟩
       have hDl : D.length = 32 := by rw [← hDD.out, bv_length, Sha.sum_length]
       have hD1 : ∀ u ∈ D, u.oneCell' = true := by rw [← hDD.out]; exact bv_one _
       rw [hDD.out] at hD
       have hi32 : Hid ((Tryz.prog.info? 32).map (·.size) = some D.length) := by show _ = _; rw [hDl]; exact size35
       have hP := Lib.hid (Put.mk' (ty := 32) (RES := D) hR.out (by rw [hDl]; rfl) hi32.out hD1)
       have hend : Hid (X (.returned (.agg D.toArray)) (wr.setCells tb 0 D)) := by
        show X _ _
        rw [hX.out, ← hDD.out]; exact ⟨rfl, by rw [hDD.out]; exact below_grown hb.out hP.out.grw (by have := hR.out.lt; omega) htw⟩
       have hrg := Lib.hid hD.out.range
       clear hD hS hR hb hDl hD1 hs2
       go_wp2_with (first
        | (refine wpList_load_mid (by rfl) 32 (.tmp 6) rfl db 0 rfl D _ hrg.out Tryz.underlying32 rfl hi32.out ?_)
         | (refine wpList_store_mid (by rfl) 32 (.tmp 2) (.tmp 41) (by rfl) tb 0 D.toArray (by rfl) (by rfl) hP.out.th hP.out.inf hP.out.one ?_))
       exact bodyPost_ret (results_cell_row rfl _ _ tb 32 D.toArray (0, 0) _ rfl hP.out.blk Tryz.underlying32 rfl hP.out.inf) rfl hend.out

set_option maxRecDepth 20000 in
set_option maxHeartbeats 2000000 in
theorem r2tagged_any (tag : ByteArray) (htg : tag.size ≤ 140737488355000) (a : Option Addr) (n c : Nat) (l : List Nat) (w : World) (H : BW w a n c l) (hn : n ≤ 140737488354900) :
 Calls Tryz.prog 134 #[.string tag, .slice a n c] w (DigPost (Sha.tagged (octets tag) l) w) := by
 have H' := Lib.hid H
 clear H
 obtain ⟨X, hX⟩ : ∃ X, Hid (X = DigPost (Sha.tagged (octets tag) l) w) := ⟨_, rfl⟩
 rw [← hX.out]
 obtain ⟨tb, htb'⟩ : ∃ tb, Hid (w.heap.size = tb) := ⟨_, rfl⟩
 go_enter Tryz.func134, Tryz.ntmps134
 go_wp2_with fail
 rw [htb'.out]
 generalize hW1 : World.alloc w _ = W1
 have hD1 : Blk W1 tb 32 (bv (List.replicate 32 0)) := by rw [← hW1, ← htb'.out]; exact Blk.new w _ _
 have hb1 : Below w.heap.size w W1 := by rw [← hW1]; exact (Below.refl _ w).alloc (Nat.le_refl _) _
 clear hW1
 obtain ⟨cap, W2, hr, hB2, hbl2⟩ := str_bytes W1 tag (by omega)
 rw [hr]
 have hsb := hD1.lt
 have hb2 : Below w.heap.size w W2 := hb1.trans (hbl2.mono hb1.size)
 have hD2 := hD1.below hbl2 hsb
 have hS2 := H'.out.below hb2
 generalize W1.heap.size = sb at *
 go_simp
 go_wp2_with fail
 refine (r2sum_any _ _ _ _ W2 (bw_of hB2) (by omega)).mono ?_
 rintro e W3 ⟨rfl, hb3⟩
 have hb3' := Lib.hid (hb2.trans (hb3.mono hb2.size))
 have hD3 := Lib.hid (hD2.below hb3 hD2.lt)
 clear hb3 hb2 hb1 hS2 hD2 hB2 hbl2 hr hD1 hsb
 obtain ⟨OUT, hOUT⟩ : ∃ O, Hid (bv (Sha.sum (octets tag)) = O) := ⟨_, rfl⟩
 have hol : OUT.length = 32 := by rw [← hOUT.out, bv_length, Sha.sum_length]
 have ho1 : ∀ u ∈ OUT, u.oneCell' = true := by rw [← hOUT.out]; exact bv_one _
 have hP := Lib.hid (Put.mk' (ty := 32) (RES := OUT) (Blk.new W3 32 (bv (List.replicate 32 0))) (by rw [hol]; rfl) (by rw [hol]; exact size35) ho1)
 rw [hOUT.out]
 have hsl := Lib.hid (fun W => slice_all W W3.heap.size)
 go_upto_region 2 with (first
  | (refine wpList_store_mid (by rfl) 32 (.tmp 5) (.tmp 8) (by rfl) W3.heap.size 0 OUT.toArray (by rfl) (by rfl) hP.out.th hP.out.inf hP.out.one ?_))
 try simp only [Act.put]
 generalize hW4 : World.setCells _ _ _ _ = W4
 have hD5 : Blk W4 W3.heap.size 32 (bv (Sha.sum (octets tag))) := by rw [← hW4, hOUT.out]; exact hP.out.blk
 have hD6 : Hid (Blk W4 tb 32 (bv (List.replicate 32 0))) := by rw [← hW4]; exact (hD3.out.alloc _).grown hP.out.grw (fun e => by have := hD3.out.lt; injection e with e; omega)
 have hb5 : Hid (Below w.heap.size w W4) := by rw [← hW4]; exact below_grown (hb3'.out.alloc hb3'.out.size _) hP.out.grw (by rw [World.size_alloc]; have := hb3'.out.size; omega) hb3'.out.size
 have hS5 : Hid (BW W4 a n c l) := H'.out.below hb5.out
 have hl32 : (Sha.sum (octets tag)).length = 32 := Sha.sum_length _
 have hBo : BS (W4.alloc (.cells #[] 5)) (some ⟨W3.heap.size, 0, none⟩) 32 32 (Sha.sum (octets tag)) := by
  have h5 := hD5.alloc (.cells #[] 5)
  have := Blk.bs (pre := []) (post := []) (l := Sha.sum (octets tag)) (c := 32) (by simpa using h5) (by omega) (by omega) (Sha.sum_lt _)
  rwa [hl32] at this
 obtain ⟨v1, V1, hr1', ho1', hb1'⟩ := append_byL (own_new W4) (by simp) ((Below.refl _ W4).alloc (Nat.le_refl _) (.cells #[] 5)) (bw_of hBo) (by simp)
 rw [List.nil_append] at ho1'
 obtain ⟨v2, V2, hr2', ho2', hb2'⟩ := append_byL ho1' hb1'.size hb1' (hS5.out.below hb1') (by rw [hl32]; omega)
 have hr1 := Lib.hid hr1'; have hr2 := Lib.hid hr2'; have ho2 := Lib.hid ho2'; have hb2 := Lib.hid hb2'
 clear hr1' hr2' ho1' ho2' hb1' hb2' hBo hD5 hW4 hP hol ho1 hD3 hOUT hb3'
 generalize W3.heap.size = kb at *
 have hsl' : ∀ W, (Instr.sliceAt 32 (.pointer (some ⟨kb, 0, none⟩)) none none none).run Tryz.prog W = .ok (.slice (some ⟨kb, 0, none⟩) 32 32) W := hsl.out
 clear hsl
 obtain ⟨a2, c2, rfl, hB2⟩ := BS.own ho2.out.1 ho2.out.2
 have hB2' := Lib.hid hB2
 clear hB2
 rw [List.length_append, hl32, H'.out.len] at hr2 hB2'
 go_wp2_with (first
  | (at_builtin; refine Lib.wpList_append_run _ rfl _ _ _ _ rfl _ _ rfl rfl _ _ (hr1.out _) ?_)
   | (at_builtin; refine Lib.wpList_append_run _ rfl _ _ _ _ rfl _ _ rfl rfl _ _ (hr2.out _) ?_))
 refine (r2sum_any _ _ _ _ V2 (bw_of hB2'.out) (by omega)).mono ?_
 rintro e W8 ⟨rfl, hb8⟩
 have hD8 := (hD6.out.below hb2.out hD6.out.lt).below hb8 (by exact (hD6.out.below hb2.out hD6.out.lt).lt)
 have hb8' := (hb5.out.trans (hb2.out.mono hb5.out.size)).trans (hb8.mono (Nat.le_trans hb5.out.size hb2.out.size))
 have hs : Sha.sum (Sha.sum (octets tag) ++ l) = Sha.tagged (octets tag) l := rfl
 rw [hs]
 obtain ⟨D, hDD⟩ : ∃ D, Hid (bv (Sha.tagged (octets tag) l) = D) := ⟨_, rfl⟩
 have hDl : D.length = 32 := by rw [← hDD.out, bv_length, Sha.tagged_length]
 have hD1 : ∀ u ∈ D, u.oneCell' = true := by rw [← hDD.out]; exact bv_one _
 rw [hDD.out]
 have hP := Lib.hid (Put.mk' (ty := 32) (RES := D) hD8 (by rw [hDl]; rfl) (by rw [hDl]; exact size35) hD1)
 have hend : Hid (X (.returned (.agg D.toArray)) (W8.setCells tb 0 D)) := by
  show X _ _
  rw [hX.out, ← hDD.out]; exact ⟨rfl, by rw [hDD.out]; exact below_grown hb8' hP.out.grw hb8'.size (Nat.le_of_eq htb'.out)⟩
 clear hD8 hb8' hDl hD1 hs hb8 hB2' ho2 hb2 hD6 hb5 hS5
 go_wp2_with (first
  | (refine wpList_store_mid (by rfl) 32 (.tmp 4) (.tmp 14) (by rfl) tb 0 D.toArray (by rfl) (by rfl) hP.out.th hP.out.inf hP.out.one ?_))
 exact bodyPost_ret (results_cell_row rfl _ _ tb 32 D.toArray (0, 0) _ rfl hP.out.blk Tryz.underlying32 rfl hP.out.inf) rfl hend.out
end Go.Proofs.YtnonfdcbnkdmcaaGreatDoor
namespace Go
theorem wp_append_run {P : Program} {op : Oper} {a : Act} {w : World} {K : Act → World → Prop} {Q : Exit → Act → World → Prop} {x y : Operand} {t t' : TypeId} (ho : op.op = .call { callee := .builtin .append, args := #[x, y], argTypes := #[t, t'] }) (v u : Value) (hx : a.eval x = v) (hy : a.eval y = u) {v' : Value} {w' : World}
 (hr : (Builtin.append_ #[t, t'] op.type #[v, u]).run P w = .ok v' w') (h : K (a.put op.dst v') w') : op.wp P a w K Q := by
 unfold Oper.wp
 simp [execOp, ho, resolve, invoke, builtin, hx, hy, hr, Result.andThen]
 exact h
end Go
namespace Go.Proofs.YtnonfdcbnkdmcaaGreatDoor
open Go.RowKit Go.Mem

theorem restOf_cons (m n x : Nat) (l : List Nat) : List.foldl (fun n b => (n * 256 + b) % m) n (x :: l) = List.foldl (fun n b => (n * 256 + b) % m) ((n * 256 + x) % m) l := rfl
set_option maxRecDepth 20000 in
set_option maxHeartbeats 2000000 in
theorem r4rest_any (d : List Nat) (hd : d.length = 32) (hdl : ∀ u ∈ d, u < 256) (m : Nat) (m0 : 256 < m) (m1 : m < 4611686018427387904) (w : World) :
 Calls Tryz.prog 176 #[.agg (bv d).toArray, .int .i64 (m : Int)] w (fun e w' => e = .returned (.int .i64 ((restOf m d : Nat) : Int)) ∧ Below w.heap.size w w') := by
 obtain ⟨R, hR⟩ : ∃ R, Hid (restOf m d = R) := ⟨_, rfl⟩
 rw [hR.out]
 have hR0 : Hid (List.foldl (fun n b => (n * 256 + b) % m) 0 d = R) := hR.out
 obtain ⟨tb, htb⟩ : ∃ tb, Hid (w.heap.size = tb) := ⟨_, rfl⟩
 have hdl' := Lib.hid hdl
 have hd' := Lib.hid hd
 have D0 : Hid (Blk (w.alloc (.cells (bv d).toArray 32)) tb 32 (bv d)) := by rw [← htb.out]; exact Blk.new w _ _
 have b0 : Hid (Below tb w (w.alloc (.cells (bv d).toArray 32))) := by rw [← htb.out]; exact (Below.refl _ w).alloc (Nat.le_refl _) _
 clear hdl hd hR
 go_enter Tryz.func176, Tryz.ntmps176
 go_wp2_with fail
 rw [htb.out]
 generalize World.alloc w _ = W0 at *
 go_loopw [5, 6] (fun nv i wr => ∃ k n : Nat, k ≤ 32 ∧ i = .int .i64 (k : Int) ∧ nv = .int .i64 (n : Int) ∧ n < m ∧ Hid (List.foldl (fun n b => (n * 256 + b) % m) n (d.drop k) = R) ∧ Hid (Blk wr tb 32 (bv d)) ∧ Hid (Below tb w wr)) (fun _ i _ => 32 - (intOf i).toNat)
 case atStart => exact ⟨0, 0, by omega, rfl, rfl, by omega, hR0, D0, b0⟩
 case round =>
  obtain ⟨k, n, hk, rfl, rfl, hn, hI, hD, hb⟩ := hrel
  clear D0 b0 hR0
  by_cases hlt : k < 32
  · have hkl : k < d.length := by rw [hd'.out]; exact hlt
    have hI' := hI.out
    rw [List.drop_eq_getElem_cons hkl, restOf_cons] at hI'
    have cx := hD.out.at_ (bv_get (List.getElem?_eq_getElem hkl))
    have hx := hdl'.out _ (List.getElem_mem hkl)
    obtain ⟨x, hxx⟩ : ∃ x, d[k] = x := ⟨_, rfl⟩
    rw [hxx] at hI' cx hx
    have hp := r4product_any 256 n m m0 (by omega) (by omega) 
    obtain ⟨p, hpp⟩ : ∃ p, 256 * n % m = p := ⟨_, rfl⟩
    rw [hpp] at hp
    have hpm : p < m := by rw [← hpp]; exact Nat.mod_lt _ (by omega)
    obtain ⟨q, hq⟩ : ∃ q, (p + x) % m = q := ⟨_, rfl⟩
    have hqm : q < m := by rw [← hq]; exact Nat.mod_lt _ (by omega)
    have hst : (n * 256 + x) % m = q := by rw [← hq, ← hpp, Nat.mod_add_mod, Nat.mul_comm]
    rw [hst] at hI'
    have htm : Int.tmod ((p : Int) + (x : Int)) (m : Int) = (q : Int) := by rw [Int.tmod_eq_emod_of_nonneg (by omega), ← hq]; push_cast; rfl
    have hp' : Hid (∀ W, Calls Tryz.prog 183 #[.int .i64 256, .int .i64 (n : Int), .int .i64 (m : Int)] W (fun e w' => e = .returned (.int .i64 (p : Int)) ∧ w' = W)) := fun W => hp W
    have hI2 := Lib.hid hI'
    have k0 : (0 : Int) ≤ (k : Int) := by omega
    have k1 : (k : Int) < 32 := by omega
    have mne : ¬ (m : Int) = 0 := by omega
    have p0 : (0 : Int) ≤ (p : Int) := by omega
    have p1 : (p : Int) < 4611686018427387904 := by omega
    have x0 : (0 : Int) ≤ (x : Int) := by omega
    have x1 : (x : Int) < 256 := by omega
    clear hI hI' hp hxx hpp hq hst hx
    go_wp2_with fail
    go_quiet ((go_at_call 183; exact Calls.quiet_of_same (Hid.out hp' _)))
    go_wp2_with fail
    go_roundw
    case rel => exact ⟨k + 1, q, by omega, by go_num, rfl, hqm, hI2, hD.out.drewN _, hb.out.trans (Go.Mem.below_drewN _ _ _)⟩
    case measure => simp [intOf]; omega
  · obtain rfl : k = 32 := by omega
    rw [List.drop_eq_nil_of_le (by rw [hd'.out]; omega)] at hI
    have hI' : n = R := hI.out
    subst hI'
    have hend := Lib.hid hb.out
    go_wp2_with fail
    go_ret
    exact ⟨rfl, by rw [htb.out]; exact hend.out⟩

set_option maxRecDepth 20000 in
set_option maxHeartbeats 2000000 in
theorem r4hash_any (tag : ByteArray) (htg : tag.size ≤ 140737488355000) (a : Option Addr) (n c : Nat) (l : List Nat) (w : World) (H : BW w a n c l) (hn : n ≤ 140737488354900) :
 Calls Tryz.prog 136 #[.string tag, .slice a n c] w (fun e w' => e = .returned (.int .i64 ((scalar (octets tag) l : Nat) : Int)) ∧ Below w.heap.size w w') := by
 have hts := Lib.hid (r2tagged_any tag htg a n c l w H hn)
 obtain ⟨T, hT⟩ : ∃ T, Hid (Sha.tagged (octets tag) l = T) := ⟨_, rfl⟩
 have hTl : T.length = 32 := by rw [← hT.out]; exact Sha.tagged_length _ _
 have hTt : ∀ u ∈ T, u < 256 := by rw [← hT.out]; exact Sha.tagged_lt _ _
 have hrs := Lib.hid (fun W => r4rest_any T hTl hTt 2305843009213688668 (by omega) (by omega) W)
 have hlt := restOf_lt 2305843009213688668 (by omega) T
 have hv : Hid (((scalar (octets tag) l : Nat) : Int) = 1 + ((restOf 2305843009213688668 T : Nat) : Int)) := by show _ = _; unfold scalar; rw [hT.out]; omega
 rw [hv.out]
 obtain ⟨r, hr⟩ : ∃ r, restOf 2305843009213688668 T = r := ⟨_, rfl⟩
 rw [hr] at hrs hlt ⊢
 rw [hT.out] at hts
 have r0 : (0 : Int) ≤ (r : Int) := by omega
 have r1 : (r : Int) < 2305843009213688668 := by omega
 clear hr hTl hTt H hT hv
 go_enter Tryz.func136, Tryz.ntmps136
 go_wp2_with fail
 refine hts.out.mono ?_
 rintro e w1 ⟨rfl, hb1⟩
 go_wp2_with fail
 refine (hrs.out w1).mono ?_
 rintro e w2 ⟨rfl, hb2⟩
 have hb3 := Lib.hid (hb1.trans (hb2.mono hb1.size))
 clear hb1 hb2
 go_wp2_with fail
 go_ret
 exact ⟨rfl, hb3.out⟩

set_option maxRecDepth 20000 in
set_option maxHeartbeats 2000000 in
theorem r5bytes_any (x : Int) (w : World) :
 Calls Tryz.prog 137 #[.int .i64 x] w (fun e w' => ∃ v, e = .returned v ∧ OwnY w.heap.size w' v (numB x) ∧ Below w.heap.size w w') := by
 obtain ⟨X, hX⟩ : ∃ X, X = (fun (e : Ending) (w' : World) => ∃ v, e = .returned v ∧ OwnY w.heap.size w' v (numB x) ∧ Below w.heap.size w w') := ⟨_, rfl⟩
 rw [← hX]
 have hXX := Lib.hid hX
 clear hX
 obtain ⟨N, hN⟩ : ∃ N, Hid ((x % 18446744073709551616).toNat = N) := ⟨_, rfl⟩
 have hwx : IntKind.u64.wrap x = (N : Int) := by rw [IntKind.wrap_u64]; have := hN.out; omega
 have hnb : Hid (numB x = Sha.be 8 N) := by show _ = _; unfold numB; rw [hN.out]
 rw [hnb.out] at hXX
 go_enter Tryz.func137, Tryz.ntmps137
 go_wp2_with fail
 go_loopw [3, 4] (fun v i wr => ∃ k : Nat, k ≤ 8 ∧ i = .int .i64 (7 - (k : Int)) ∧ Hid (OwnY w.heap.size wr v ((Sha.be 8 N).take k)) ∧ Hid (Below w.heap.size w wr)) (fun _ i _ => ((intOf i) + 1).toNat)
 case atStart => exact ⟨0, by omega, rfl, own_new w, (Below.refl _ w).alloc (Nat.le_refl _) _⟩
 case round =>
  obtain ⟨k, hk, rfl, ho, hb⟩ := hrel
  by_cases hlt : k < 8
  · have k0 : (0 : Int) ≤ 7 - (k : Int) := by omega
    have k8 : (k : Int) ≤ 7 := by omega
    have k00 : (0 : Int) ≤ (k : Int) := by omega
    obtain ⟨b, hbe⟩ : ∃ b, Hid (N / 256 ^ (7 - k) % 256 = b) := ⟨_, rfl⟩
    have hbv : (N : Int) / 2 ^ (8 * (7 - k)) % 256 = (b : Int) := by
     have h : 256 ^ (7 - k) = 2 ^ (8 * (7 - k)) := (Nat.pow_mul 2 8 (7 - k)).symm
     rw [← hbe.out, h]
     push_cast
     rfl
    obtain ⟨v', W', hr, ho4, hb4⟩ := append_b1L (x := b) ho.out hb.out.size hb.out (by rw [← hbe.out]; exact Nat.mod_lt _ (by decide)) (by rw [List.length_take]; omega)
    rw [← hbe.out, ← Sha.be8_take hlt] at ho4
    have hr' := Lib.hid hr; have ho4' := Lib.hid ho4; have hb4' := Lib.hid hb4
    clear hr ho4 hb4
    go_wp2_with (first
     | (at_builtin; refine Lib.wpList_append_run _ rfl _ _ _ _ rfl _ _ rfl rfl _ _ (hr'.out _) ?_))
    go_roundw
    case rel => exact ⟨k + 1, by omega, by go_num, ho4', hb4'⟩
    case measure => simp [intOf]; omega
  · obtain rfl : k = 8 := by omega
    have ho2 := ho.out
    rw [List.take_of_length_le (by rw [Sha.be_length]; omega)] at ho2
    have hfin : Hid (X (.returned u3) wr) := by rw [hXX.out]; exact ⟨_, rfl, ho2, hb.out⟩
    go_wp2_with fail
    exact hfin.out

theorem OwnY.below {B : Nat} {W W' : World} {v : Value} {l : List Nat} (h : OwnY B W v l) (hb : Below W.heap.size W W') : OwnY B W' v l := ⟨Sl.owns_below h.1 hb (Nat.le_refl _), h.2⟩
theorem OwnY.imp {B B2 : Nat} {W : World} {v : Value} {l : List Nat} (h : OwnY B W v l) (hle : B2 ≤ B) : OwnY B2 W v l :=
 ⟨⟨h.1.1, h.1.2.imp id (fun ⟨g, cap, cur, e, hb, r⟩ => ⟨g, cap, cur, e, Nat.le_trans hle hb, r⟩)⟩, h.2⟩
theorem append_own {B B2 : Nat} {w0 W : World} {v v2 : Value} {l l2 : List Nat} (ho : OwnY B W v l) (hB : B ≤ W.heap.size) (hb0 : Below B w0 W) (h2 : OwnY B2 W v2 l2) (hn : l.length + l2.length ≤ 140737488355328) :
 ∃ v' W', (∀ ty, (Builtin.append_ #[71, 71] ty #[v, v2]).run Tryz.prog W = .ok v' W') ∧ OwnY B W' v' (l ++ l2) ∧ Below B w0 W' := by
 obtain ⟨a, c, rfl, hBS⟩ := BS.own h2.1 h2.2
 exact append_byL ho hB hb0 (bw_of hBS) hn

set_option maxRecDepth 20000 in
set_option maxHeartbeats 2000000 in
theorem r5chal_any (p r : Int) (a : Option Addr) (n c : Nat) (l : List Nat) (w : World) (H : BW w a n c l) (hn : n ≤ 140737488354000) :
 Calls Tryz.prog 140 #[.int .i64 p, .int .i64 r, .slice a n c] w (fun e w' => e = .returned (.int .i64 (signH l r p)) ∧ Below w.heap.size w w') := by
 have H' := Lib.hid H
 have hln := Lib.hid H.len
 clear H
 go_enter Tryz.func140, Tryz.ntmps140
 go_wp2_with fail
 refine (r5bytes_any r w).mono ?_
 rintro e w1 ⟨v1, rfl, ho1', hb1'⟩
 have ho1 := Lib.hid ho1'; have hb1 := Lib.hid hb1'
 clear ho1' hb1'
 go_wp2_with fail
 refine (r5bytes_any p w1).mono ?_
 rintro e w2 ⟨v2, rfl, ho2', hb2'⟩
 obtain ⟨v3, w3, hr3', ho3', hb3'⟩ := append_own (ho1.out.below hb2') (Nat.le_trans hb1.out.size hb2'.size) (hb1.out.trans (hb2'.mono hb1.out.size)) ho2' (by simp only [numB_length]; omega)
 obtain ⟨v4, w4, hr4', ho4', hb4'⟩ := append_byL ho3' hb3'.size hb3' (H'.out.below hb3') (by rw [List.length_append]; simp only [numB_length]; omega)
 have hr3 := Lib.hid hr3'; have hr4 := Lib.hid hr4'; have hb4 := Lib.hid hb4'
 obtain ⟨a4, c4, rfl, hB4'⟩ := BS.own ho4'.1 ho4'.2
 have hB4 := Lib.hid hB4'
 clear ho2' hb2' hr3' ho3' hb3' hr4' ho4' hb4' hB4'
 have hll : Hid ((numB r ++ numB p ++ l).length = n + 16) := by show _ = _; simp only [List.length_append, numB_length, hln.out]; omega
 rw [hll.out] at hr4 hB4
 have hsg : Hid (signH l r p = ((scalar (octets ⟨#[115, 105, 103, 110]⟩) (numB r ++ numB p ++ l) : Nat) : Int)) := by
  show _ = _; unfold signH hashK; rw [numsB_cons, numsB_cons, show numsB [] = [] from rfl, List.append_nil]; rfl
 go_wp2_with (first
  | (at_builtin; refine Lib.wpList_append_run _ rfl _ _ _ _ rfl _ _ rfl rfl _ _ (hr3.out _) ?_)
   | (at_builtin; refine Lib.wpList_append_run _ rfl _ _ _ _ rfl _ _ rfl rfl _ _ (hr4.out _) ?_))
 refine (r4hash_any ⟨#[115, 105, 103, 110]⟩ (by decide) _ _ _ _ w4 (bw_of hB4.out) (by omega)).mono ?_
 rintro e w5 ⟨rfl, hb5⟩
 have hb6 := Lib.hid (hb4.out.trans (hb5.mono hb4.out.size))
 rw [← hsg.out]
 clear hb5 hB4 hsg hll
 go_wp2_with fail
 go_ret
 exact ⟨rfl, hb6.out⟩
end Go.Proofs.YtnonfdcbnkdmcaaGreatDoor
namespace Go.Proofs.YtnonfdcbnkdmcaaGreatDoor
open Go.RowKit Go.Mem

end Go.Proofs.YtnonfdcbnkdmcaaGreatDoor

