/- the reference 30: kind, Digest, entry, number -/
import Derived.Test.YtnonfdcbnkdmcaaGreatDoorAl
import Derived.Test.YtnonfdcbnkdmcaaGreatDoorRfK
import Derived.Test.YtnonfdcbnkdmcaaGreatDoorRfS
import Derived.Test.YtnonfdcbnkdmcaaGreatDoorChk
namespace Go.Proofs.YtnonfdcbnkdmcaaGreatDoor
open Go.RowKit Go.Mem
open Go.Sto (Ent Lg St)

set_option maxHeartbeats 400000 in
theorem r30kind_any (x : Int) (w : World) : Calls Tryz.prog 147 #[.int .i64 x] w (fun e w' => e = .returned (.bool (Sto.kindB x)) ∧ w' = w) := by
 go_enter Tryz.func147, Tryz.ntmps147
 by_cases h1 : 1 ≤ x <;> by_cases h2 : x ≤ 7
 all_goals
  go_wp2_with fail
  go_returns
  exact ⟨by simp [Sto.kindB, h1, h2], rfl⟩

theorem own_oneK (W : World) (k : Int) : OwnY W.heap.size (W.alloc (.cells #[.int .u8 (k % 256)] 5)) (.slice (some ⟨W.heap.size, 0, none⟩) 1 1) [(k % 256).toNat] := by
 refine ⟨⟨rfl, Or.inr ⟨W.heap.size, 1, #[.int .u8 (k % 256)], rfl, Nat.le_refl _, heap_alloc_new W _, Nat.le_refl _, by unfold maxLen; omega, rfl, ?_⟩⟩, fun x hx => ?_⟩
 · show [Value.int .u8 (k % 256)] = bv [(k % 256).toNat]
   show _ = [Value.int .u8 _]
   rw [Int.toNat_of_nonneg (by omega)]
 · rw [List.mem_singleton] at hx; omega

set_option maxRecDepth 20000 in
set_option maxHeartbeats 2000000 in
theorem r30digest_any (kind : Int) (hk : -9223372036854775808 ≤ kind ∧ kind ≤ 9223372036854775807) (a : Option Addr) (n c : Nat) (l : List Nat) (w : World) (H : BW w a n c l) (hn : n ≤ 140737488354000) :
 Calls Tryz.prog 104 #[.int .i64 kind, .slice a n c] w (DigPost (entryD kind l) w) := by
 obtain ⟨k0, k1⟩ := hk
 have H' := Lib.hid H
 have hln := Lib.hid H.len
 clear H
 obtain ⟨X, hX⟩ : ∃ X, Hid (X = DigPost (entryD kind l) w) := ⟨_, rfl⟩
 rw [← hX.out]
 obtain ⟨tb, htb⟩ : ∃ tb, Hid (w.heap.size = tb) := ⟨_, rfl⟩
 have hed : Hid (Sha.tagged (octets ⟨#[101, 110, 116, 114, 121]⟩) ([(kind % 256).toNat] ++ l) = entryD kind l) := rfl
 have hll : Hid ((entryD kind l).length = 32) := Sha.tagged_length _ _
 obtain ⟨D, hD⟩ : ∃ D, Hid (entryD kind l = D) := ⟨_, rfl⟩
 rw [hD.out] at hed hll
 have hfin : Hid (∀ W, Below w.heap.size w W → X (.returned (.agg (bv D).toArray)) W) := fun W h => by rw [hX.out, hD.out]; exact ⟨rfl, h⟩
 clear hX hD
 go_enter Tryz.func104, Tryz.ntmps104
 go_upto_region 1 with fail
 rw [htb.out]
 generalize hW1 : World.alloc w _ = W1
 have hD1 : Blk W1 tb 32 (bv (List.replicate 32 0)) := by rw [← hW1, ← htb.out]; exact Blk.new w _ _
 have hb1 : Below w.heap.size w W1 := by rw [← hW1]; exact (Below.refl _ w).alloc (Nat.le_refl _) _
 clear hW1
 obtain ⟨v1, V1, hr1, ho1, hbv⟩ := append_byL (own_oneK W1 kind) (by simp) ((Below.refl _ W1).alloc (Nat.le_refl _) (.cells #[.int .u8 (kind % 256)] 5)) (H'.out.below (hb1.alloc hb1.size _)) (by rw [List.length_singleton]; omega)
 obtain ⟨a2, c2, rfl, hB2⟩ := BS.own ho1.1 ho1.2
 have hr1' := Lib.hid hr1
 have hB2' := Lib.hid hB2
 have hl2 : Hid (([(kind % 256).toNat] ++ l).length = n + 1) := by show _ = _; rw [List.length_append, hln.out, List.length_singleton]; omega
 rw [hl2.out] at hr1' hB2'
 have hb2 := Lib.hid (hb1.trans (hbv.mono hb1.size))
 have hD2 := Lib.hid (hD1.below hbv hD1.lt)
 clear hr1 hB2 ho1 hbv hD1 hb1 H'
 go_wp2_with (first
  | (at_builtin; refine Lib.wpList_append_run _ rfl _ _ _ _ rfl _ _ rfl rfl _ _ (hr1'.out _) ?_))
 refine (r2tagged_any ⟨#[101, 110, 116, 114, 121]⟩ (by decide) _ _ _ _ V1 (bw_of hB2'.out) (by omega)).mono ?_
 rintro e W3 ⟨rfl, hb3⟩
 rw [hed.out]
 obtain ⟨RES, hRES⟩ : ∃ R, Hid (bv D = R) := ⟨_, rfl⟩
 have hol : RES.length = 32 := by rw [← hRES.out, bv_length, hll.out]
 have hP := Lib.hid (Put.mk' (ty := 32) (RES := RES) (hD2.out.below hb3 hD2.out.lt) (by rw [hol]; rfl) (by rw [hol]; exact size35) (by rw [← hRES.out]; exact bv_one _))
 have hend := Lib.hid (hfin.out _ (below_grown (hb2.out.trans (hb3.mono hb2.out.size)) hP.out.grw (hb2.out.trans (hb3.mono hb2.out.size)).size (Nat.le_of_eq htb.out)))
 rw [hRES.out] at hend ⊢
 clear hb3 hb2 hD2 hB2' hr1' hed hfin hll hRES
 go_wp2_with (first
  | (refine wpList_store_mid (by rfl) 32 (.tmp 4) (.tmp 10) (by rfl) tb 0 RES.toArray (by rfl) (by rfl) hP.out.th hP.out.inf hP.out.one ?_))
 exact ret_cellV (p := 4) rfl hP.out.blk Tryz.underlying32 rfl hP.out.inf rfl rfl hend.out

set_option maxRecDepth 20000 in
set_option maxHeartbeats 2000000 in
theorem r30entry_any (e : Ent) (ho : OkE e) (da : Option Addr) (dn dc : Nat) (r : List Value) (er : r = entC e da dn dc) (w : World) (H : BW w da dn dc e.data) :
 Calls Tryz.prog 94 #[.agg r.toArray] w (RetBo (Sto.entB e) w) := by
 have H' := Lib.hid H
 have hdl := H.len
 have er' := Lib.hid er
 clear H er
 obtain ⟨X, hX⟩ : ∃ X, X = RetBo (Sto.entB e) w := ⟨_, rfl⟩
 have hfin : Hid (∀ v W, Sto.entB e = v → Below w.heap.size w W → X (.returned (.bool v)) W) := fun v W hv h => by rw [hX, hv]; exact ⟨rfl, h⟩
 rw [← hX]
 clear hX
 obtain ⟨g, hg⟩ : ∃ g, Hid (w.heap.size = g) := ⟨_, rfl⟩
 have ho' := Lib.hid ho
 have hdn := ho.data
 have hdig : Hid (Dig e.dig) := ⟨ho.dig, ho.lt⟩
 clear ho
 go_enter Tryz.func94, Tryz.ntmps94
 go_upto_region 1 with fail
 rw [hg.out]
 generalize hW : World.alloc w _ = W2
 have hB : Blk W2 g 75 r := by rw [← hW, ← hg.out]; exact Blk.new w _ _
 have hb2 : Hid (Below w.heap.size w W2) := by rw [← hW]; exact (Below.refl _ w).alloc (Nat.le_refl _) _
 clear hW
 rw [er'.out] at hB
 have hgl := hB.lt
 have hE2 := EntB.of hB ho'.out.dig
 have hdr := Lib.hid hE2.dig
 have ek := hE2.kind
 have ed := hE2.data
 have eg := hE2.gone
 clear hE2 hB
 cases hgn : e.gone with
 | true =>
  rw [hgn] at eg
  by_cases hk4 : e.kind = 4
  · rw [hk4] at ek
    by_cases hd0 : dn = 0
    · subst hd0
      have hend := Lib.hid (hfin.out true W2 (by simp [Sto.entB, Sto.goneB, hgn, hk4, hdl]) hb2.out)
      clear hdl hdn hgn hk4
      go_wp2_with fail
      exact hend.out
    · have hend := Lib.hid (hfin.out false W2 (gone_bad hgn (by omega)) hb2.out)
      have q1 : decide ((dn : Int) = 0) = false := decide_eq_false (by omega)
      have q2 : ((dn : Int) == 0) = false := by simpa using hd0
      have q3 : decide (dn = 0) = false := decide_eq_false hd0
      clear hdl hdn hgn hk4
      go_wp2_with fail
      exact hend.out
  · have hend := Lib.hid (hfin.out false W2 (by simp [Sto.entB, Sto.goneB, hgn, hk4]) hb2.out)
    have q1 : decide (e.kind = 4) = false := decide_eq_false hk4
    have q2 : (e.kind == 4) = false := by simpa using hk4
    clear hdl hdn hgn
    go_wp2_with fail
    exact hend.out
 | false =>
  rw [hgn] at eg
  have hik := Lib.hid (fun W => r30kind_any e.kind W)
  cases hkd : Sto.kindB e.kind with
  | false =>
   rw [hkd] at hik
   have hend := Lib.hid (fun m => hfin.out false (W2.drewN m) (by simp [Sto.entB, Sto.keptB, hgn, hkd]) (hb2.out.trans (below_drewN _ _ _)))
   clear hdl hdn hgn
   go_wp2_with fail
   go_quiet (first | (go_at_call 147; exact Calls.quiet_of_same (hik.out _)))
   go_wp2_with fail
   exact hend.out _
  | true =>
   rw [hkd] at hik
   have hdd := Lib.hid (fun W (hW : Below W2.heap.size W2 W) => r30digest_any e.kind ⟨ho'.out.lo, ho'.out.hi⟩ da dn dc e.data W (H'.out.below (hb2.out.trans (hW.mono hb2.out.size))) (by omega))
   have hS : FinS W2 g e.kind (bv e.dig) (.slice da dn dc) W2 := ⟨ek, hdr.out, ed, Below.refl _ _⟩
   unfold FinS at hS
   have hdD : Dig (Sto.entD e.kind e.data) := ⟨Sha.tagged_length _ _, Sha.tagged_lt _ _⟩
   obtain ⟨D, hD⟩ : ∃ D, Hid (entryD e.kind e.data = D) := ⟨_, rfl⟩
   rw [hD.out] at hdd
   have hdi : Hid ((Tryz.prog.info? 32).map (·.size) = some (bv e.dig).length) := by show _ = _; rw [bv_length, ho'.out.dig]; exact size35
   have heq := fun W => eq_dig hdig.out (show Dig D by rw [← hD.out]; exact hdD) W
   have hdi2 := hdi.out
   have hu35 := under35
   obtain ⟨q, hq⟩ : ∃ q, Hid (decide (e.dig = D) = q) := ⟨_, rfl⟩
   rw [hq.out] at heq
   have hend : Hid (∀ W, Below W2.heap.size W2 W → X (.returned (.bool q)) W) := fun W hW => hfin.out q W (by unfold Sto.entB Sto.keptB; rw [hgn, hkd, ← hq.out, ← hD.out]; rfl) (hb2.out.trans (hW.mono hb2.out.size))
   clear hdl hdn hgn hdD hfin
   go_wp2_with fail
   go_region_held3 (fun wz => wz.cell? ⟨g, 0, none⟩ = some (.int .i64 e.kind) ∧ wz.rangeAt g 1 (bv e.dig) ∧ wz.cell? ⟨g, 33, none⟩ = some (.slice da dn dc) ∧ Below W2.heap.size W2 wz) (repeat (first | assumption | apply FinS.drew))
    (first
      | (go_at_call 147; refine (hik.out _).mono ?_; rintro e wq ⟨rfl, rfl⟩)
       | (go_at_call 104; refine (hdd.out _ (FinS.below (by assumption))).mono ?_; rintro e wq ⟨rfl, hbq⟩; have hsq := FinS.next hgl (by assumption) hbq))
   go_wp2_with fail
   exact hend.out _ hsq.2.2.2

theorem EntR1 {w : World} {b o : Nat} {e : Ent} {a : Option Addr} {n c : Nat} (h : w.rangeAt b o (entC e a n c)) (_ho : e.dig.length = 32) : w.rangeAt b (o + 1) (bv e.dig) := fun j v hv => by
 have hj := (List.getElem?_eq_some_iff.1 hv).1
 rw [bv_length] at hj
 rw [bv_get (List.getElem?_eq_getElem hj)] at hv
 cases hv
 rw [Nat.add_assoc, Nat.add_comm 1 j]
 exact h _ _ (entC_dig (List.getElem?_eq_getElem hj) a n c)

set_option maxRecDepth 20000 in
set_option maxHeartbeats 2000000 in
theorem r30number_any (K : Nat → Prop) (a : Option Addr) (n c : Nat) (l : List Ent) (d : List Nat) (hd : Dig d) (w : World) (H : ES K w a n c l) :
 Calls Tryz.prog 95 #[.slice a n c, .agg (bv d).toArray] w (RetI (Sto.numE d l) w) := by
 have hlen := H.rs.len
 have hbd := H.bd
 have n63 : (n : Int) ≤ 100000 := by omega
 have H' := Lib.hid H
 clear H
 obtain ⟨X, hX⟩ : ∃ X, X = RetI (Sto.numE d l) w := ⟨_, rfl⟩
 have hfin : Hid (∀ (m : Nat) W, Sto.numE d l = m → Below w.heap.size w W → X (.returned (.int .i64 (m : Int))) W) := fun m W hm h => by rw [hX, hm]; exact ⟨rfl, h⟩
 rw [← hX]
 clear hX
 obtain ⟨tb, htb⟩ : ∃ tb, Hid (w.heap.size = tb) := ⟨_, rfl⟩
 have hdi2 : Hid ((Tryz.prog.info? 32).map (·.size) = some (bv d).length) := by show _ = _; rw [bv_length, hd.1]; exact size35
 have hd' := Lib.hid hd
 clear hd
 go_enter Tryz.func95, Tryz.ntmps95
 go_upto_region 1 with fail
 rw [htb.out]
 generalize hW : World.alloc w _ = W1
 have hB : Hid (Blk W1 tb 32 (bv d)) := by rw [← hW, ← htb.out]; exact Blk.new w _ _
 have hb1 : Hid (Below w.heap.size w W1) := by rw [← hW]; exact (Below.refl _ w).alloc (Nat.le_refl _) _
 clear hW
 go_wp2_with fail
 go_loopw [5] (fun i wr => ∃ k : Nat, k ≤ n ∧ i = .int .i64 k ∧ Hid (Blk wr tb 32 (bv d)) ∧ Hid (Below w.heap.size w wr) ∧ Hid (∀ j x, j < k → l[j]? = some x → x.dig ≠ d)) (fun i _ => n - (intOf i).toNat)
 case atStart => exact ⟨0, Nat.zero_le _, rfl, hB, hb1, fun j x hj => absurd hj (Nat.not_lt_zero j)⟩
 case round =>
  obtain ⟨k, hk, rfl, hT, hb, hn⟩ := hrel
  clear hB hb1
  by_cases hlt : k < n
  · obtain ⟨x, hx⟩ : ∃ x, l[k]? = some x := ⟨_, List.getElem?_eq_getElem (by omega)⟩
    obtain ⟨b, off, r, rfl, hbl, _, ⟨ho, da, dn, dc, er, hbk⟩, hrl, hrg⟩ := (H'.out.below hb.out).rs.get hx
    have hrg1 := (EntR1 (er ▸ hrg) ho.dig)
    have h1 : Hid (∀ wz, Below wr.heap.size wr wz → wz.rangeAt b (off + k * 35 + 1) (bv x.dig)) := fun wz h j v hj => (h.cell (p := ⟨b, _, none⟩) hbl).trans (hrg1 j v hj)
    have h2 : Hid (∀ wz, Below wr.heap.size wr wz → wz.rangeAt tb 0 (bv d)) := fun wz h => (hT.out.below h hT.out.lt).range
    have hdi1 : Hid ((Tryz.prog.info? 32).map (·.size) = some (bv x.dig).length) := by show _ = _; rw [bv_length, ho.dig]; exact size35
    have heq := fun W => eq_dig (show Dig x.dig from ⟨ho.dig, ho.lt⟩) hd'.out W
    have k0 : (0 : Int) ≤ (k : Int) := by omega
    have k1 : (k : Int) < (n : Int) := by omega
    have kw : IntKind.i64.wrap ((k : Int) + 1) = (k : Int) + 1 := IntWalk.i64_in _ (by omega)
    have hx' := Lib.hid hx
    clear hrg hrg1 er hbk hrl ho hx
    by_cases hde : x.dig = d
    · rw [decide_eq_true hde] at heq
      have hend : Hid (∀ W, Below w.heap.size w W → X (.returned (.int .i64 ((k : Int) + 1))) W) := fun W h => hfin.out (k + 1) W (Sto.numE_at hx'.out hde hn.out) h
      clear hde hn hx' hfin
      go_upto_region 4 with fail
      refine wp_region_held_drew (S := fun wz => Below wr.heap.size wr wz) (by kernel_rfl) ((Below.refl _ wr).drew) (fun hHeld => ?_)
      generalize hWd : wr.drew = Wd at *
      clear hWd
      refine tQ 0 rfl hHeld ?_
      refine tQ 1 rfl hHeld ?_
      refine tQ 2 rfl hHeld ?_
      refine tQ 3 rfl hHeld ?_
      refine tY 4 rfl b (off + k * 35 + 1) (bv x.dig) (fun wz h => h1.out wz h) Tryz.underlying32 hdi1.out hHeld ?_
      refine tY 5 rfl tb 0 (bv d) (fun wz h => h2.out wz h) Tryz.underlying32 hdi2.out hHeld ?_
      refine tX 6 rfl (fun wz hSw => heq) hHeld ?_
      refine wpAnyH_done (by kernel_rfl) ?_ _
      have hb2 := Lib.hid (hb.out.trans (hHeld.mono hb.out.size))
      have hT3 := hT.out.below hHeld hT.out.lt
      clear hHeld heq
      go_wp2_with fail
      exact hend.out _ hb2.out
    · rw [decide_eq_false hde] at heq
      have hn2 : Hid (∀ j y, j < k + 1 → l[j]? = some y → y.dig ≠ d) := fun j y hj hy => by
       by_cases hjk : j = k
       · subst hjk; rw [hx'.out] at hy; cases hy; exact hde
       · exact hn.out j y (by omega) hy
      clear hde hn hx'
      go_upto_region 4 with fail
      refine wp_region_held_drew (S := fun wz => Below wr.heap.size wr wz) (by kernel_rfl) ((Below.refl _ wr).drew) (fun hHeld => ?_)
      generalize hWd : wr.drew = Wd at *
      clear hWd
      refine tQ 0 rfl hHeld ?_
      refine tQ 1 rfl hHeld ?_
      refine tQ 2 rfl hHeld ?_
      refine tQ 3 rfl hHeld ?_
      refine tY 4 rfl b (off + k * 35 + 1) (bv x.dig) (fun wz h => h1.out wz h) Tryz.underlying32 hdi1.out hHeld ?_
      refine tY 5 rfl tb 0 (bv d) (fun wz h => h2.out wz h) Tryz.underlying32 hdi2.out hHeld ?_
      refine tX 6 rfl (fun wz hSw => heq) hHeld ?_
      refine wpAnyH_done (by kernel_rfl) ?_ _
      have hb2 := Lib.hid (hb.out.trans (hHeld.mono hb.out.size))
      have hT3 := hT.out.below hHeld hT.out.lt
      clear hHeld heq
      have hT2 : Hid (Blk Wd tb 32 (bv d)) := hT3
      clear hT
      go_wp2_with fail
      go_roundw
      case rel => exact ⟨k + 1, by omega, by go_num, hT2, hb2, hn2⟩
      case measure => simp [intOf]; omega
  · obtain rfl : k = n := by omega
    have hend := Lib.hid (hfin.out 0 wr (Sto.numE_none fun j x hj hx => hn.out j x (by omega) hx) hb.out)
    clear hfin hn
    go_wp2_with fail
    exact hend.out
end Go.Proofs.YtnonfdcbnkdmcaaGreatDoor
