/- directory.fits, Check, of; slices.IndexFunc at []api.Listing -/
import Derived.Test.YtlpgjdlkjahdgaaGreatDoorDiC
import Derived.Test.YtlpgjdlkjahdgaaGreatDoorGrp2
namespace Go.Proofs.YtlpgjdlkjahdgaaGreatDoor
open Go.RowKit Go.Mem
open Go.Dr (Lst Rt)

set_option maxRecDepth 20000 in
set_option maxHeartbeats 4000000 in
theorem fits_any (x : Lst) (w : World) : Calls Tryz.prog 165 #[.agg (gC x).toArray] w (RetBo (Go.Dr.fitsB x) w) := by
  obtain ⟨tb, htb⟩ : ∃ tb, Hid (w.heap.size = tb) := ⟨_, rfl⟩
  go_enter Tryz.func165, Tryz.ntmps165
  go_upto_region 1 with fail
  rw [htb.out]
  generalize hW : World.alloc _ _ = W
  have hX : Hid (Blk W tb 118 (gC x)) := by rw [← hW, ← htb.out]; exact Blk.new w _ (gC x)
  have hb : Hid (Below w.heap.size w W) := by rw [← hW]; exact (Below.refl _ w).alloc (Nat.le_refl _) _
  clear hW
  have c0 := hX.out.at_ (i := 0) (x := .int .i64 x.dev) rfl
  have c1 := hX.out.at_ (i := 1) (x := .int .i64 x.ver) rfl
  by_cases h1 : 0 ≤ x.dev
  · have h1' : decide (0 ≤ x.dev) = true := by simpa using h1
    by_cases h2 : x.dev < 512
    · have h2' : decide (x.dev < 512) = true := by simpa using h2
      cases g1 : Grp.ok x.ver with
      | true =>
        have k1 := Lib.hid (fun W => gcheck_any x.ver W)
        rw [Grp.chk_t g1] at k1
        cases g2 : Grp.ok x.leaf with
        | true =>
          have k2 := Lib.hid (fun W => gcheck_any x.leaf W)
          rw [Grp.chk_t g2] at k2
          by_cases h3 : 1 ≤ x.vers
          · have h3' : decide (1 ≤ x.vers) = true := by simpa using h3
            by_cases h4 : x.vers ≤ 1048576
            · have h4' : decide (x.vers ≤ 1048576) = true := by simpa using h4
              have hv : Hid (Go.Dr.fitsB x = true) := by show _ = _; simp [Go.Dr.fitsB, h1, h2, h3, h4, g1, g2]
              go_wp2_with (first
                  | (go_at_call_of 117 (Value.int .i64 x.ver); refine (k1.out _).mono ?_; rintro e w2 ⟨rfl, hb2⟩; have X2 := Blk.below hX.out hb2 hX.out.lt; have b2 := hb.out.trans (hb2.mono hb.out.size); have a2 := X2.at_ (i := 2) (x := .int .i64 x.leaf) rfl; have a3 := X2.at_ (i := 3) (x := .int .i64 x.vers) rfl)
                  | (go_at_call_of 117 (Value.int .i64 x.leaf); refine (k2.out _).mono ?_; rintro e w3 ⟨rfl, hb3⟩; have X3 := Blk.below X2 hb3 X2.lt; have b3 := b2.trans (hb3.mono b2.size); have d3 := X3.at_ (i := 3) (x := .int .i64 x.vers) rfl))
              go_ret
              exact ⟨by rw [hv.out]; rfl, b3⟩
            · have h4' : decide (x.vers ≤ 1048576) = false := by simpa using h4
              have hv : Hid (Go.Dr.fitsB x = false) := by show _ = _; simp [Go.Dr.fitsB, h4]
              go_wp2_with (first
                  | (go_at_call_of 117 (Value.int .i64 x.ver); refine (k1.out _).mono ?_; rintro e w2 ⟨rfl, hb2⟩; have X2 := Blk.below hX.out hb2 hX.out.lt; have b2 := hb.out.trans (hb2.mono hb.out.size); have a2 := X2.at_ (i := 2) (x := .int .i64 x.leaf) rfl; have a3 := X2.at_ (i := 3) (x := .int .i64 x.vers) rfl)
                  | (go_at_call_of 117 (Value.int .i64 x.leaf); refine (k2.out _).mono ?_; rintro e w3 ⟨rfl, hb3⟩; have X3 := Blk.below X2 hb3 X2.lt; have b3 := b2.trans (hb3.mono b2.size); have d3 := X3.at_ (i := 3) (x := .int .i64 x.vers) rfl))
              go_ret
              exact ⟨by rw [hv.out]; rfl, b3⟩
          · have h3' : decide (1 ≤ x.vers) = false := by simpa using h3
            have hv : Hid (Go.Dr.fitsB x = false) := by show _ = _; simp [Go.Dr.fitsB, h3]
            go_wp2_with (first
                | (go_at_call_of 117 (Value.int .i64 x.ver); refine (k1.out _).mono ?_; rintro e w2 ⟨rfl, hb2⟩; have X2 := Blk.below hX.out hb2 hX.out.lt; have b2 := hb.out.trans (hb2.mono hb.out.size); have a2 := X2.at_ (i := 2) (x := .int .i64 x.leaf) rfl; have a3 := X2.at_ (i := 3) (x := .int .i64 x.vers) rfl)
                | (go_at_call_of 117 (Value.int .i64 x.leaf); refine (k2.out _).mono ?_; rintro e w3 ⟨rfl, hb3⟩; have X3 := Blk.below X2 hb3 X2.lt; have b3 := b2.trans (hb3.mono b2.size); have d3 := X3.at_ (i := 3) (x := .int .i64 x.vers) rfl))
            go_ret
            exact ⟨by rw [hv.out]; rfl, b3⟩
        | false =>
          have k2 := Lib.hid (fun W => gcheck_any x.leaf W)
          rw [Grp.chk_f g2] at k2
          have hv : Hid (Go.Dr.fitsB x = false) := by show _ = _; simp [Go.Dr.fitsB, g2]
          go_wp2_with (first
              | (go_at_call_of 117 (Value.int .i64 x.ver); refine (k1.out _).mono ?_; rintro e w2 ⟨rfl, hb2⟩; have X2 := Blk.below hX.out hb2 hX.out.lt; have b2 := hb.out.trans (hb2.mono hb.out.size); have a2 := X2.at_ (i := 2) (x := .int .i64 x.leaf) rfl; have a3 := X2.at_ (i := 3) (x := .int .i64 x.vers) rfl)
              | (go_at_call_of 117 (Value.int .i64 x.leaf); refine (k2.out _).mono ?_; rintro e w3 ⟨rfl, hb3⟩; have X3 := Blk.below X2 hb3 X2.lt; have b3 := b2.trans (hb3.mono b2.size); have d3 := X3.at_ (i := 3) (x := .int .i64 x.vers) rfl))
          go_ret
          exact ⟨by rw [hv.out]; rfl, b3⟩
      | false =>
        have k1 := Lib.hid (fun W => gcheck_any x.ver W)
        rw [Grp.chk_f g1] at k1
        have hv : Hid (Go.Dr.fitsB x = false) := by show _ = _; simp [Go.Dr.fitsB, g1]
        go_wp2_with (first
            | (go_at_call_of 117 (Value.int .i64 x.ver); refine (k1.out _).mono ?_; rintro e w2 ⟨rfl, hb2⟩; have X2 := Blk.below hX.out hb2 hX.out.lt; have b2 := hb.out.trans (hb2.mono hb.out.size); have a2 := X2.at_ (i := 2) (x := .int .i64 x.leaf) rfl; have a3 := X2.at_ (i := 3) (x := .int .i64 x.vers) rfl))
        go_ret
        exact ⟨by rw [hv.out]; rfl, b2⟩
    · have h2' : decide (x.dev < 512) = false := by simpa using h2
      have hv : Hid (Go.Dr.fitsB x = false) := by show _ = _; simp [Go.Dr.fitsB, h2]
      go_wp2_with fail
      go_ret
      exact ⟨by rw [hv.out]; rfl, hb.out⟩
  · have h1' : decide (0 ≤ x.dev) = false := by simpa using h1
    have hv : Hid (Go.Dr.fitsB x = false) := by show _ = _; simp [Go.Dr.fitsB, h1]
    go_wp2_with fail
    go_ret
    exact ⟨by rw [hv.out]; rfl, hb.out⟩

theorem chkGo_f {p : Int} {x : Lst} {r : List Lst} (h : Go.Dr.fitsB x = false ∨ ¬ p < x.dev) : Go.Dr.chkGo p (x :: r) = false := by
  unfold Go.Dr.chkGo
  rcases h with h | h
  · rw [h]; rfl
  · rw [decide_eq_false h]; simp
theorem chkGo_t {p : Int} {x : Lst} {r : List Lst} (h : Go.Dr.fitsB x = true) (h2 : p < x.dev) : Go.Dr.chkGo p (x :: r) = Go.Dr.chkGo x.dev r := by
  conv => lhs; unfold Go.Dr.chkGo
  rw [h, decide_eq_true h2]; rfl

def zG : List Value := [.int .i64 0, .int .i64 0, .int .i64 0, .int .i64 0, .bool false]
/-- a listing's row in a new box. -/
theorem box_g (W : World) (x : Lst) : ∃ W2, PutR 118 (W.alloc (.cells zG.toArray 118)) W2 W.heap.size 118 (gC x) ∧ Below W.heap.size W W2 := by
  obtain ⟨W2, hP⟩ := put_row (ty := 118) (Blk.new W 118 zG) (x := gC x) rfl sizeG (gC_one x)
  exact ⟨W2, hP, below_grown ((Below.refl _ W).alloc (Nat.le_refl _) _) hP.grown (by simp) (Nat.le_refl _)⟩

set_option maxRecDepth 20000 in
set_option maxHeartbeats 4000000 in
theorem dcheck_any (K : Nat → Prop) (a : Option Addr) (n c : Nat) (l : List Lst) (w : World) (H : GS K w a n c l) :
    Calls Tryz.prog 163 #[.slice a n c] w (RetI (if Go.Dr.chkL l then 0 else 350) w) := by
  have n63 : (n : Int) ≤ 9223372036854775807 := by have := RS.le H; have := RS.max H; omega
  have hlen := RS.len H
  have H' := Lib.hid H
  clear H
  obtain ⟨V, hV⟩ : ∃ V : Int, Hid ((if Go.Dr.chkL l then 0 else 350) = V) := ⟨_, rfl⟩
  rw [hV.out]
  go_enter Tryz.func163, Tryz.ntmps163
  go_wp2_with fail
  go_loopw [3, 8] (fun last i wr => ∃ (k : Nat) (p : Int), k ≤ n ∧ i = .int .i64 k ∧ last = .int .i64 p ∧ Hid (Below w.heap.size w wr) ∧ Hid (Go.Dr.chkGo p (l.drop k) = Go.Dr.chkL l)) (fun _ i _ => n - (intOf i).toNat)
  case atStart => exact ⟨0, -1, Nat.zero_le _, rfl, rfl, Below.refl _ _, rfl⟩
  case round =>
    obtain ⟨k, p, hk, rfl, rfl, hbr, hf⟩ := hrel
    by_cases hlt : k < n
    · have hkl : k < l.length := by omega
      obtain ⟨b, off, rfl, hbl, _, hox, hrg⟩ := GS.cells (H'.out.below hbr.out) (List.getElem?_eq_getElem hkl)
      have hf' := hf.out
      rw [List.drop_eq_getElem_cons hkl] at hf'
      generalize l[k] = x at *
      obtain ⟨W2, hP, hb2⟩ := box_g wr x
      have hbw := Lib.hid (hbr.out.trans (hb2.mono hbr.out.size))
      have hi := Lib.hid (show (Tryz.prog.info? 118).map (·.size) = some (gC x).length from sizeG)
      have hc := Lib.hid (fits_any x W2)
      have hr1 := Lib.hid hrg
      have hr3 := Lib.hid hP.blk.range
      have hP' := Lib.hid hP
      have hf2 := Lib.hid hf'
      obtain ⟨tb, htb⟩ : ∃ tb, Hid (wr.heap.size = tb) := ⟨_, rfl⟩
      rw [htb.out] at hP' hr3
      have k0 : (0 : Int) ≤ (k : Int) := by omega
      have k1 : (k : Int) < (n : Int) := by omega
      obtain ⟨r, hr⟩ : ∃ r, Hid (gC x = r) := ⟨_, rfl⟩
      have hX2 : Hid (Blk W2 tb 118 (gC x)) := hP'.out.blk
      rw [hr.out] at hP' hr1 hr3 hi hc
      clear hf' hf hrg hP hkl hbl hb2
      obtain ⟨dv, hdv⟩ : ∃ d, Hid (x.dev = d) := ⟨_, rfl⟩
      cases hfit : Go.Dr.fitsB x with
      | false =>
        rw [hfit] at hc
        have hcf := chkGo_f (p := p) (r := l.drop (k + 1)) (.inl hfit)
        rw [hf2.out] at hcf
        have hcf' := Lib.hid hcf
        clear hcf hfit
        go_wp2_with (first
          | (refine wpList_load_mid (by rfl) 118 (.tmp 10) (by rfl) b (off + k * 5) (by rfl) r _ hr1.out Tryz.underlying118 (by rfl) hi.out ?_)
          | (rw [htb.out]; refine wpList_store_mid (by rfl) 118 (.tmp 5) (.tmp 11) (by rfl) tb 0 r.toArray (by rfl) (by rfl) hP'.out.there hP'.out.info (by simpa using hP'.out.one) ?_
             generalize hWq : World.setCells _ _ _ _ = Wa
             obtain rfl : W2 = Wa := by rw [← hWq]; exact hP'.out.eq
             clear hWq)
          | (refine wpList_load_mid (by rfl) 118 (.tmp 5) (by rfl) tb 0 (by rfl) r _ hr3.out Tryz.underlying118 (by rfl) hi.out ?_)
          | (refine hc.out.mono ?_; rintro e w3 ⟨rfl, hb3⟩; have b3 := hbw.out.trans (hb3.mono hbw.out.size)))
        go_ret
        exact ⟨by rw [← hV.out, if_neg (by rw [hcf'.out]; simp)]; rfl, b3⟩
      | true =>
        rw [hfit] at hc
        by_cases hpd : p < dv
        · have hct := chkGo_t (p := p) (r := l.drop (k + 1)) hfit (by rw [hdv.out]; exact hpd)
          rw [hf2.out, hdv.out] at hct
          have hct' := Lib.hid hct
          have hpd' : decide (dv ≤ p) = false := by simpa using hpd
          clear hct hfit hpd
          go_wp2_with (first
            | (refine wpList_load_mid (by rfl) 118 (.tmp 10) (by rfl) b (off + k * 5) (by rfl) r _ hr1.out Tryz.underlying118 (by rfl) hi.out ?_)
            | (rw [htb.out]; refine wpList_store_mid (by rfl) 118 (.tmp 5) (.tmp 11) (by rfl) tb 0 r.toArray (by rfl) (by rfl) hP'.out.there hP'.out.info (by simpa using hP'.out.one) ?_
               generalize hWq : World.setCells _ _ _ _ = Wa
               obtain rfl : W2 = Wa := by rw [← hWq]; exact hP'.out.eq
               clear hWq)
            | (refine wpList_load_mid (by rfl) 118 (.tmp 5) (by rfl) tb 0 (by rfl) r _ hr3.out Tryz.underlying118 (by rfl) hi.out ?_)
            | (refine hc.out.mono ?_; rintro e w3 ⟨rfl, hb3⟩; have b3 := hbw.out.trans (hb3.mono hbw.out.size); have c3 := (Blk.below hX2.out hb3 hX2.out.lt).at_ (i := 0) (x := .int .i64 dv) (by rw [← hdv.out]; rfl)))
          go_roundw
          case rel => exact ⟨k + 1, dv, by omega, by go_num, rfl, b3, hct'.out.symm⟩
          case measure => simp [intOf]; omega
        · have hcf := chkGo_f (p := p) (x := x) (r := l.drop (k + 1)) (.inr (by rw [hdv.out]; exact hpd))
          rw [hf2.out] at hcf
          have hcf' := Lib.hid hcf
          have hpd' : decide (dv ≤ p) = true := by simpa using hpd
          clear hcf hfit hpd
          go_wp2_with (first
            | (refine wpList_load_mid (by rfl) 118 (.tmp 10) (by rfl) b (off + k * 5) (by rfl) r _ hr1.out Tryz.underlying118 (by rfl) hi.out ?_)
            | (rw [htb.out]; refine wpList_store_mid (by rfl) 118 (.tmp 5) (.tmp 11) (by rfl) tb 0 r.toArray (by rfl) (by rfl) hP'.out.there hP'.out.info (by simpa using hP'.out.one) ?_
               generalize hWq : World.setCells _ _ _ _ = Wa
               obtain rfl : W2 = Wa := by rw [← hWq]; exact hP'.out.eq
               clear hWq)
            | (refine wpList_load_mid (by rfl) 118 (.tmp 5) (by rfl) tb 0 (by rfl) r _ hr3.out Tryz.underlying118 (by rfl) hi.out ?_)
            | (refine hc.out.mono ?_; rintro e w3 ⟨rfl, hb3⟩; have b3 := hbw.out.trans (hb3.mono hbw.out.size); have c3 := (Blk.below hX2.out hb3 hX2.out.lt).at_ (i := 0) (x := .int .i64 dv) (by rw [← hdv.out]; rfl)))
          go_ret
          exact ⟨by rw [← hV.out, if_neg (by rw [hcf'.out]; simp)]; rfl, b3⟩
    · obtain rfl : k = n := by omega
      have hf' := hf.out
      rw [List.drop_eq_nil_of_le (by omega)] at hf'
      have hf2 := Lib.hid hf'
      clear hf hf'
      go_wp2_with fail
      go_ret
      exact ⟨by rw [← hV.out, if_pos (show Go.Dr.chkL l = true from hf2.out.symm)]; rfl, hbr.out⟩
end Go.Proofs.YtlpgjdlkjahdgaaGreatDoor
