/- store.isKind, isFolder, fine -/
import Derived.Test.YtnonfdcbnkdmcaaGreatDoorKey
import Derived.Test.YtnonfdcbnkdmcaaGreatDoorLst
import Derived.Deep.QuietTactic
import Derived.BigQuiet
namespace Go.Proofs.YtnonfdcbnkdmcaaGreatDoor
open Go.RowKit Go.Mem
open Go.Sto (Ent Lg St)

set_option maxHeartbeats 400000 in
theorem isKind_any (x : Int) (w : World) : Calls Tryz.prog 69 #[.int .i64 x] w (fun e w' => e = .returned (.bool (Sto.kindB x)) ∧ w' = w) := by
 go_enter Tryz.func69, Tryz.ntmps69
 by_cases h1 : 1 ≤ x <;> by_cases h2 : x ≤ 7
 all_goals
  go_wp2_with fail
  go_returns
  exact ⟨by simp [Sto.kindB, h1, h2], rfl⟩
set_option maxHeartbeats 400000 in
theorem isFolder_any (x : Int) (w : World) : Calls Tryz.prog 91 #[.int .i64 x] w (fun e w' => e = .returned (.bool (Sto.folderB x)) ∧ w' = w) := by
 go_enter Tryz.func91, Tryz.ntmps91
 by_cases h1 : 0 ≤ x <;> by_cases h2 : x < 16
 all_goals
  go_wp2_with fail
  go_returns
  exact ⟨by simp [Sto.folderB, h1, h2], rfl⟩

structure PutR (ty : TypeId) (W W9 : World) (tb : Nat) (t : TypeId) (RES : List Value) : Prop where
 there : W.there tb 0 RES.toArray.size
 info : (Tryz.prog.info? ty).map (·.size) = some RES.toArray.size
 one : ∀ u ∈ RES, u.oneCell' = true
 eq : W9 = W.setCells tb 0 RES
 blk : Blk W9 tb t RES
 grown : W.grownBy W9 (some tb)
theorem put_row {ty t : TypeId} {W : World} {tb : Nat} {x y : List Value} (hD : Blk W tb t y) (hy : x.length = y.length) (hi : (Tryz.prog.info? ty).map (·.size) = some x.length) (h1 : ∀ u ∈ x, u.oneCell' = true) : ∃ W9, PutR ty W W9 tb t x := by
 obtain ⟨_, h2, h3⟩ := run_store_blk (P := Tryz.prog) (ty := ty) hD (vs := x) hy hi h1
 refine ⟨_, ?_, by rw [List.size_toArray]; exact hi, h1, rfl, h2, h3⟩
 rw [List.size_toArray, hy]
 exact hD.there

structure EntB (w : World) (g : Nat) (e : Ent) (a : Option Addr) (n c : Nat) : Prop where
 kind : w.cell? ⟨g, 0, none⟩ = some (.int .i64 e.kind)
 dig : w.rangeAt g 1 (bv e.dig)
 data : w.cell? ⟨g, 33, none⟩ = some (.slice a n c)
 gone : w.cell? ⟨g, 34, none⟩ = some (.bool e.gone)
theorem EntB.of {w : World} {g : Nat} {t : TypeId} {e : Ent} {a : Option Addr} {n c : Nat} (h : Blk w g t (entC e a n c)) (ho : e.dig.length = 32) : EntB w g e a n c :=
 ⟨h.at_ (entC_kind e a n c), fun j v hv => by
  have hj := (List.getElem?_eq_some_iff.1 hv).1
  rw [bv_length] at hj
  rw [bv_get (List.getElem?_eq_getElem hj)] at hv
  cases hv
  rw [Nat.add_comm]
  exact h.at_ (entC_dig (List.getElem?_eq_getElem hj) a n c), h.at_ (entC_data ho a n c), h.at_ (entC_gone ho a n c)⟩

theorem fineGo_met {met : List (List Nat)} {e : Ent} {r : List Ent} (h : e.dig ∈ met) : Sto.fineGo met (e :: r) = false := by simp [Sto.fineGo, h]
theorem fineGo_bad {met : List (List Nat)} {e : Ent} {r : List Ent} (h : Sto.entB e = false) : Sto.fineGo met (e :: r) = false := by simp [Sto.fineGo, h]
theorem fineGo_good {met : List (List Nat)} {e : Ent} {r : List Ent} (h : ¬ e.dig ∈ met) (h2 : Sto.entB e = true) : Sto.fineGo met (e :: r) = Sto.fineGo (met ++ [e.dig]) r := by simp [Sto.fineGo, h, h2]

theorem gone_bad {e : Ent} (hg : e.gone = true) (h : ¬ e.data.length = 0) : Sto.entB e = false := by
 unfold Sto.entB Sto.goneB
 rw [hg, decide_eq_false h]
 simp

theorem kept_bad {e : Ent} (hg : e.gone = false) (h : ¬ e.dig = Sto.entD e.kind e.data) : Sto.entB e = false := by
 unfold Sto.entB Sto.keptB
 rw [hg, decide_eq_false h]
 simp
theorem kept_good {e : Ent} (hg : e.gone = false) (hk : Sto.kindB e.kind = true) (h : e.dig = Sto.entD e.kind e.data) : Sto.entB e = true := by
 unfold Sto.entB Sto.keptB
 rw [hg, decide_eq_true h, hk]
 rfl

def FinS (W2 : World) (g : Nat) (k : Int) (d : List Value) (v : Value) (wz : World) : Prop := wz.cell? ⟨g, 0, none⟩ = some (.int .i64 k) ∧ wz.rangeAt g 1 d ∧ wz.cell? ⟨g, 33, none⟩ = some v ∧ Below W2.heap.size W2 wz
section
variable {W2 wz wq : World} {g : Nat} {k : Int} {d : List Value} {v : Value}
theorem FinS.next (hg : g < W2.heap.size) (h : wz.cell? ⟨g, 0, none⟩ = some (.int .i64 k) ∧ wz.rangeAt g 1 d ∧ wz.cell? ⟨g, 33, none⟩ = some v ∧ Below W2.heap.size W2 wz) (hb : Below wz.heap.size wz wq) :
 wq.cell? ⟨g, 0, none⟩ = some (.int .i64 k) ∧ wq.rangeAt g 1 d ∧ wq.cell? ⟨g, 33, none⟩ = some v ∧ Below W2.heap.size W2 wq := by
 have hgz : g < wz.heap.size := Nat.lt_of_lt_of_le hg h.2.2.2.size
 exact ⟨(hb.cell (p := ⟨g, 0, none⟩) hgz).trans h.1, fun j u hj => (hb.cell (p := ⟨g, _, none⟩) hgz).trans (h.2.1 j u hj), (hb.cell (p := ⟨g, 33, none⟩) hgz).trans h.2.2.1, h.2.2.2.trans (hb.mono h.2.2.2.size)⟩
theorem FinS.drew (h : wz.cell? ⟨g, 0, none⟩ = some (.int .i64 k) ∧ wz.rangeAt g 1 d ∧ wz.cell? ⟨g, 33, none⟩ = some v ∧ Below W2.heap.size W2 wz) :
 wz.drew.cell? ⟨g, 0, none⟩ = some (.int .i64 k) ∧ wz.drew.rangeAt g 1 d ∧ wz.drew.cell? ⟨g, 33, none⟩ = some v ∧ Below W2.heap.size W2 wz.drew := ⟨h.1, h.2.1, h.2.2.1, h.2.2.2.drew⟩
theorem FinS.below (h : wz.cell? ⟨g, 0, none⟩ = some (.int .i64 k) ∧ wz.rangeAt g 1 d ∧ wz.cell? ⟨g, 33, none⟩ = some v ∧ Below W2.heap.size W2 wz) : Below W2.heap.size W2 wz := h.2.2.2
end

set_option maxRecDepth 20000 in
set_option maxHeartbeats 2000000 in
theorem fine_any (K : Nat → Prop) (a : Option Addr) (n c : Nat) (l : List Ent) (w : World) (HT : Tabs w) (H : ES K w a n c l) :
 Calls Tryz.prog 92 #[.slice a n c] w (RetBo (Sto.fineB l) w) := by
 have hlen := H.rs.len
 have hbd := H.bd
 have n63 : (n : Int) ≤ 100000 := by omega
 have HT' := Lib.hid HT; have H' := Lib.hid H
 clear HT H
 have hmm := @run_makeMap Tryz.prog
 obtain ⟨mb, hmb⟩ : ∃ mb, Hid (w.heap.size = mb) := ⟨_, rfl⟩
 go_enter Tryz.func92, Tryz.ntmps92
 go_wp2_with fail
 rw [hmb.out]
 have hM0 : Hid (MSet (w.alloc (.map #[] 0)) mb 0 []) := by rw [← hmb.out]; exact MSet.made w
 have hb0 : Hid (Below w.heap.size w (w.alloc (.map #[] 0))) := (Below.refl _ w).alloc (Nat.le_refl _) _
 clear hmm
 generalize World.alloc w _ = w1 at *
 go_loopw [9] (fun i wr => ∃ (k : Nat) (met : List (List Nat)), k ≤ n ∧ i = .int .i64 k ∧ Hid (MSet wr mb k met) ∧ Hid (Below w.heap.size w wr) ∧ Hid (Sto.fineGo [] l = Sto.fineGo met (l.drop k))) (fun i _ => n - (intOf i).toNat)
 case atStart => exact ⟨0, [], Nat.zero_le _, rfl, hM0, hb0, rfl⟩
 case round =>
  obtain ⟨k, met, hk, rfl, hM, hb, hf⟩ := hrel
  clear hM0 hb0
  by_cases hlt : k < n
  · have hkl : k < l.length := by omega
    have he : l[k]? = some l[k] := List.getElem?_eq_getElem hkl
    have hf' := hf.out
    rw [List.drop_eq_getElem_cons hkl] at hf'
    generalize l[k] = e at *
    obtain ⟨b, off, r, rfl, hbl, _, ⟨ho, da, dn, dc, er, hbk⟩, hrl, hrg⟩ := (H'.out.below hb.out).rs.get he
    obtain ⟨W2, hP⟩ := put_row (ty := 75) (Blk.new wr 75 (entC ⟨0, List.replicate 32 0, [], false⟩ none 0 0)) (x := r) (by rw [hrl]; rfl) (by rw [hrl]; exact sizeE) (by rw [er]; exact entC_one _ _ _ _)
    have hb2 := Lib.hid (below_grown (hb.out.alloc hb.out.size _) hP.grown (Nat.le_trans hb.out.size (by simp)) hb.out.size)
    have hM2 : Hid (MSet W2 mb k met) := hM.out.keep ((hP.grown.block mb (Nat.lt_of_lt_of_le hM.out.lt (by simp)) (fun e => by have := hM.out.lt; cases e; omega)).trans (Below.heap_alloc wr _ mb hM.out.lt))
    have hE2 : EntB W2 wr.heap.size e da dn dc := by
     have := hP.blk
     rw [er] at this
     exact EntB.of this ho.dig
    have hbw : Below wr.heap.size wr W2 := below_grown ((Below.refl _ wr).alloc (Nat.le_refl _) _) hP.grown (by simp) (Nat.le_refl _)
    have hbs := Lib.hid (hbk.bs.below hbw)
    have hT2 := Lib.hid (HT'.out.below hb2.out)
    have hdig : Dig e.dig := ⟨ho.dig, ho.lt⟩
    have hlk := hM2.out.look hdig
    have hri : Hid ((Tryz.prog.info? 75).map (·.size) = some r.length) := by show _ = _; rw [hrl]; exact sizeE
    have hdi : Hid ((Tryz.prog.info? 32).map (·.size) = some (bv e.dig).length) := by show _ = _; rw [bv_length, ho.dig]; exact size35
    have hP' := Lib.hid hP; have hrg' := Lib.hid hrg
    have hdr := Lib.hid hE2.dig
    have ek := hE2.kind
    have ed := hE2.data
    have eg := hE2.gone
    have hf2 := Lib.hid hf'
    have ho' := Lib.hid ho
    have k0 : (0 : Int) ≤ (k : Int) := by omega
    have k1 : (k : Int) < (n : Int) := by omega
    obtain ⟨g, hg⟩ : ∃ g, Hid (wr.heap.size = g) := ⟨_, rfl⟩
    have hdg := Lib.hid hdig
    clear hf' hf hrg hrl er hbk hP hbw hE2 hM hb he ho hdig
    by_cases hm : e.dig ∈ met
    · rw [decide_eq_true hm] at hlk
      have hfb : Hid (RetBo (Sto.fineB l) w (.returned (.bool false)) W2) := ⟨by rw [Sto.fineB, hf2.out, fineGo_met hm]; rfl, hb2.out⟩
      go_wp2_with (first
       | (refine wpList_load_mid (by rfl) 75 (.tmp 11) (by rfl) b (off + k * 35) (by rfl) r _ hrg'.out Tryz.underlying75 (by rfl) hri.out ?_)
        | (refine wpList_store_mid (by rfl) 75 (.tmp 5) (.tmp 12) (by rfl) wr.heap.size 0 r.toArray (by rfl) (by rfl) hP'.out.there hP'.out.info (by simpa using hP'.out.one) ?_
           generalize hWq : World.setCells _ _ _ _ = Wa
           obtain rfl : W2 = Wa := by rw [← hWq]; exact hP'.out.eq
           clear hWq)
        | (refine wpList_load_mid (by rfl) 32 (.tmp 15) (by rfl) wr.heap.size 1 (by rfl) (bv e.dig) _ hdr.out Tryz.underlying32 (by rfl) hdi.out ?_))
      go_ret
      exact hfb.out
    · rw [decide_eq_false hm] at hlk
      obtain ⟨W3, hput, hM3, hgr3⟩ := hM2.out.put (by unfold maxLen; omega) hdg.out hm
      have hb3 := Lib.hid (below_grown hb2.out hgr3 hb2.out.size (Nat.le_of_eq hmb.out))
      have hM3' := Lib.hid hM3
      clear hM3 hgr3
      cases hgn : e.gone with
      | true =>
       rw [hgn] at eg
       have hbl2 := hbs.out.len
       by_cases hk4 : e.kind = 4
       · rw [hk4] at ek
         by_cases hd0 : dn = 0
         · subst hd0
           have hgood : Hid (Sto.fineGo [] l = Sto.fineGo (met ++ [e.dig]) (l.drop (k + 1))) := by
            show _ = _
            rw [hf2.out, fineGo_good hm]
            simp [Sto.entB, Sto.goneB, hgn, hk4, hbl2]
           go_wp2_with (first
            | (refine wpList_load_mid (by rfl) 75 (.tmp 11) (by rfl) b (off + k * 35) (by rfl) r _ hrg'.out Tryz.underlying75 (by rfl) hri.out ?_)
             | (refine wpList_store_mid (by rfl) 75 (.tmp 5) (.tmp 12) (by rfl) wr.heap.size 0 r.toArray (by rfl) (by rfl) hP'.out.there hP'.out.info (by simpa using hP'.out.one) ?_
                generalize hWq : World.setCells _ _ _ _ = Wa
                obtain rfl : W2 = Wa := by rw [← hWq]; exact hP'.out.eq
                clear hWq)
             | (refine wpList_load_mid (by rfl) 32 (.tmp 15) (by rfl) wr.heap.size 1 (by rfl) (bv e.dig) _ hdr.out Tryz.underlying32 (by rfl) hdi.out ?_)
             | (refine wpList_load_mid (by rfl) 32 (.tmp 46) (by rfl) wr.heap.size 1 (by rfl) (bv e.dig) _ hdr.out Tryz.underlying32 (by rfl) hdi.out ?_))
           go_roundw
           case rel => exact ⟨k + 1, met ++ [e.dig], by omega, by go_num, hM3'.out, hb3.out, hgood.out⟩
           case measure => simp [intOf]; omega
         · have hfb : Hid (RetBo (Sto.fineB l) w (.returned (.bool false)) W2) := ⟨by rw [Sto.fineB, hf2.out, fineGo_bad (gone_bad hgn (by omega))]; rfl, hb2.out⟩
           have hdp : (0 : Int) < (dn : Int) := by omega
           go_wp2_with (first
            | (refine wpList_load_mid (by rfl) 75 (.tmp 11) (by rfl) b (off + k * 35) (by rfl) r _ hrg'.out Tryz.underlying75 (by rfl) hri.out ?_)
             | (refine wpList_store_mid (by rfl) 75 (.tmp 5) (.tmp 12) (by rfl) wr.heap.size 0 r.toArray (by rfl) (by rfl) hP'.out.there hP'.out.info (by simpa using hP'.out.one) ?_
                generalize hWq : World.setCells _ _ _ _ = Wa
                obtain rfl : W2 = Wa := by rw [← hWq]; exact hP'.out.eq
                clear hWq)
             | (refine wpList_load_mid (by rfl) 32 (.tmp 15) (by rfl) wr.heap.size 1 (by rfl) (bv e.dig) _ hdr.out Tryz.underlying32 (by rfl) hdi.out ?_))
           go_ret
           exact hfb.out
       · have hfb : Hid (RetBo (Sto.fineB l) w (.returned (.bool false)) W2) := ⟨by rw [Sto.fineB, hf2.out, fineGo_bad (by simp [Sto.entB, Sto.goneB, hgn, hk4])]; rfl, hb2.out⟩
         go_wp2_with (first
          | (refine wpList_load_mid (by rfl) 75 (.tmp 11) (by rfl) b (off + k * 35) (by rfl) r _ hrg'.out Tryz.underlying75 (by rfl) hri.out ?_)
           | (refine wpList_store_mid (by rfl) 75 (.tmp 5) (.tmp 12) (by rfl) wr.heap.size 0 r.toArray (by rfl) (by rfl) hP'.out.there hP'.out.info (by simpa using hP'.out.one) ?_
              generalize hWq : World.setCells _ _ _ _ = Wa
              obtain rfl : W2 = Wa := by rw [← hWq]; exact hP'.out.eq
              clear hWq)
           | (refine wpList_load_mid (by rfl) 32 (.tmp 15) (by rfl) wr.heap.size 1 (by rfl) (bv e.dig) _ hdr.out Tryz.underlying32 (by rfl) hdi.out ?_))
         go_ret
         exact hfb.out
      | false =>
       rw [hgn] at eg
       have hik := Lib.hid (fun W => isKind_any e.kind W)
       cases hkd : Sto.kindB e.kind with
       | false =>
        rw [hkd] at hik
        have hfb : Hid (RetBo (Sto.fineB l) w (.returned (.bool false)) W2) := ⟨by rw [Sto.fineB, hf2.out, fineGo_bad (by simp [Sto.entB, Sto.keptB, hgn, hkd])]; rfl, hb2.out⟩
        have hfb2 : Hid (∀ m, RetBo (Sto.fineB l) w (.returned (.bool false)) (W2.drewN m)) := fun m => ⟨hfb.out.1, hb2.out.trans (below_drewN _ _ _)⟩
        go_wp2_with (first
         | (refine wpList_load_mid (by rfl) 75 (.tmp 11) (by rfl) b (off + k * 35) (by rfl) r _ hrg'.out Tryz.underlying75 (by rfl) hri.out ?_)
          | (refine wpList_store_mid (by rfl) 75 (.tmp 5) (.tmp 12) (by rfl) wr.heap.size 0 r.toArray (by rfl) (by rfl) hP'.out.there hP'.out.info (by simpa using hP'.out.one) ?_
             generalize hWq : World.setCells _ _ _ _ = Wa
             obtain rfl : W2 = Wa := by rw [← hWq]; exact hP'.out.eq
             clear hWq)
          | (refine wpList_load_mid (by rfl) 32 (.tmp 15) (by rfl) wr.heap.size 1 (by rfl) (bv e.dig) _ hdr.out Tryz.underlying32 (by rfl) hdi.out ?_))
        go_quiet (first | (go_at_call 69; exact Calls.quiet_of_same (hik.out _)))
        go_wp2_with fail
        go_ret
        exact hfb2.out _
       | true =>
        rw [hkd] at hik
        have hdd := Lib.hid (fun W (hW : Below W2.heap.size W2 W) => digest_any e.kind ⟨ho'.out.lo, ho'.out.hi⟩ da dn dc e.data W (hT2.out.below hW) (hbs.out.below hW) (by have := hbs.out.len; have := ho'.out.data; omega))
        have hgl : wr.heap.size < W2.heap.size := hP'.out.blk.lt
        have hS : FinS W2 wr.heap.size e.kind (bv e.dig) (.slice da dn dc) W2 := ⟨ek, hdr.out, ed, Below.refl _ _⟩
        unfold FinS at hS
        have hdD : Dig (Sto.entD e.kind e.data) := ⟨Sha.tagged_length _ _, Sha.tagged_lt _ _⟩
        obtain ⟨D, hD⟩ : ∃ D, Hid (entryD e.kind e.data = D) := ⟨_, rfl⟩
        rw [hD.out] at hdd
        have heq := fun W => eq_dig hdg.out (show Dig D by rw [← hD.out]; exact hdD) W
        have hdi2 := hdi.out
        have hu35 := under35
        by_cases hde : e.dig = D
        · subst hde
          rw [decide_eq_true rfl] at heq
          go_wp2_with (first
           | (refine wpList_load_mid (by rfl) 75 (.tmp 11) (by rfl) b (off + k * 35) (by rfl) r _ hrg'.out Tryz.underlying75 (by rfl) hri.out ?_)
            | (refine wpList_store_mid (by rfl) 75 (.tmp 5) (.tmp 12) (by rfl) wr.heap.size 0 r.toArray (by rfl) (by rfl) hP'.out.there hP'.out.info (by simpa using hP'.out.one) ?_
               generalize hWq : World.setCells _ _ _ _ = Wa
               obtain rfl : W2 = Wa := by rw [← hWq]; exact hP'.out.eq
               clear hWq)
            | (refine wpList_load_mid (by rfl) 32 (.tmp 15) (by rfl) wr.heap.size 1 (by rfl) (bv e.dig) _ hdr.out Tryz.underlying32 (by rfl) hdi.out ?_))
          go_region_held3 (fun wz => wz.cell? ⟨wr.heap.size, 0, none⟩ = some (.int .i64 e.kind) ∧ wz.rangeAt wr.heap.size 1 (bv e.dig) ∧ wz.cell? ⟨wr.heap.size, 33, none⟩ = some (.slice da dn dc) ∧ Below W2.heap.size W2 wz) (repeat (first | assumption | apply FinS.drew))
           (first
             | (go_at_call 69; refine (hik.out _).mono ?_; rintro e wq ⟨rfl, rfl⟩)
              | (go_at_call 71; refine (hdd.out _ (FinS.below (by assumption))).mono ?_; rintro e wq ⟨rfl, hbq⟩; have hsq := FinS.next hgl (by assumption) hbq))
          obtain ⟨wq, hwq⟩ : ∃ wz, Hid (wz = wq) := ⟨_, rfl⟩
          have hMq := hM2.out.keep (hsq.2.2.2.block mb hM2.out.lt)
          obtain ⟨W4, hput4, hM4, hgr4⟩ := hMq.put (by unfold maxLen; omega) hdg.out hm
          have hb4 : Hid (Below w.heap.size w W4) := below_grown (hb2.out.trans (hsq.2.2.2.mono hb2.out.size)) hgr4 (Nat.le_trans hb2.out.size hsq.2.2.2.size) (Nat.le_of_eq hmb.out)
          have hM4' := Lib.hid hM4
          have hgood : Hid (Sto.fineGo [] l = Sto.fineGo (met ++ [e.dig]) (l.drop (k + 1))) := by
           show _ = _
           rw [hf2.out, fineGo_good hm (kept_good hgn hkd hD.out.symm)]
          have hr3 := Lib.hid hsq.2.1
          clear hM4 hgr4 hMq hwq hput hM3' hb3 hS hsq
          go_wp2_with (first
           | (refine wpList_load_mid (by rfl) 32 (.tmp 46) (by rfl) wr.heap.size 1 (by rfl) (bv e.dig) _ hr3.out Tryz.underlying32 (by rfl) hdi.out ?_))
          go_roundw
          case rel => exact ⟨k + 1, met ++ [e.dig], by omega, by go_num, hM4'.out, hb4.out, hgood.out⟩
          case measure => simp [intOf]; omega
        · rw [decide_eq_false hde] at heq
          have hde' := Lib.hid hde
          clear hde
          have hfb : Hid (∀ W, Below W2.heap.size W2 W → RetBo (Sto.fineB l) w (.returned (.bool false)) W) := fun W hW => ⟨by rw [Sto.fineB, hf2.out, fineGo_bad (kept_bad hgn (fun e => hde'.out (e.trans hD.out)))]; rfl, hb2.out.trans (hW.mono hb2.out.size)⟩
          go_wp2_with (first
           | (refine wpList_load_mid (by rfl) 75 (.tmp 11) (by rfl) b (off + k * 35) (by rfl) r _ hrg'.out Tryz.underlying75 (by rfl) hri.out ?_)
            | (refine wpList_store_mid (by rfl) 75 (.tmp 5) (.tmp 12) (by rfl) wr.heap.size 0 r.toArray (by rfl) (by rfl) hP'.out.there hP'.out.info (by simpa using hP'.out.one) ?_
               generalize hWq : World.setCells _ _ _ _ = Wa
               obtain rfl : W2 = Wa := by rw [← hWq]; exact hP'.out.eq
               clear hWq)
            | (refine wpList_load_mid (by rfl) 32 (.tmp 15) (by rfl) wr.heap.size 1 (by rfl) (bv e.dig) _ hdr.out Tryz.underlying32 (by rfl) hdi.out ?_))
          go_region_held3 (fun wz => wz.cell? ⟨wr.heap.size, 0, none⟩ = some (.int .i64 e.kind) ∧ wz.rangeAt wr.heap.size 1 (bv e.dig) ∧ wz.cell? ⟨wr.heap.size, 33, none⟩ = some (.slice da dn dc) ∧ Below W2.heap.size W2 wz) (repeat (first | assumption | apply FinS.drew))
           (first
             | (go_at_call 69; refine (hik.out _).mono ?_; rintro e wq ⟨rfl, rfl⟩)
              | (go_at_call 71; refine (hdd.out _ (FinS.below (by assumption))).mono ?_; rintro e wq ⟨rfl, hbq⟩; have hsq := FinS.next hgl (by assumption) hbq))
          go_wp2_with fail
          go_ret
          exact hfb.out _ hsq.2.2.2
  · obtain rfl : k = n := by omega
    have hgo : Hid (Sto.fineGo [] l = true) := by
     show _ = _
     rw [hf.out, List.drop_eq_nil_of_le (by omega)]
     rfl
    have hfin : ∀ v : Bool, v = decide (0 < k ∧ k ≤ 65536) → Hid (RetBo (Sto.fineB l) w (.returned (.bool v)) wr) := fun v hv => ⟨by rw [Sto.fineB, hgo.out, hlen, hv]; rfl, hb.out⟩
    clear hM hf hgo
    by_cases h0 : k = 0
    · subst h0
      have hfb := hfin false (by simp)
      go_wp2_with fail
      go_ret
      exact hfb.out
    · have hp : (0 : Int) < (k : Int) := by omega
      by_cases h1 : k ≤ 65536
      · have h1' : (k : Int) ≤ 65536 := by omega
        have hfb := hfin true (by rw [decide_eq_true]; omega)
        go_wp2_with fail
        go_ret
        exact hfb.out
      · have h1' : ¬ (k : Int) ≤ 65536 := by omega
        have hfb := hfin false (by rw [decide_eq_false]; omega)
        go_wp2_with fail
        go_ret
        exact hfb.out
end Go.Proofs.YtnonfdcbnkdmcaaGreatDoor
