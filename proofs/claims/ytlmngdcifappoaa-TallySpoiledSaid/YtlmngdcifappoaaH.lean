/- tally.Join -/
import Derived.Test.YtlmngdcifappoaaF
import Derived.StillTailTactics
namespace Go.Proofs.Ytlmngdcifappoaa
open Go.RowKit
open Tally (Tl)

theorem tcs_set3 (l : List Tl) : ∀ {p : Nat} {t : Tl} (q u v : Value), l[p]? = some t → (((tcs l).set (p * 3) q).set (p * 3 + 1) u).set (p * 3 + 2) v = tcs (l.take p) ++ [q, u, v] ++ tcs (l.drop (p + 1)) := by
  induction l with
  | nil => intro p t q u v h; cases h
  | cons x r ih =>
    intro p t q u v h
    cases p with
    | zero => cases h; rfl
    | succ p =>
      have := ih (p := p) (t := t) q u v (by simpa using h)
      rw [tcs_cons, show (p + 1) * 3 = p * 3 + 1 + 1 + 1 by omega, show p * 3 + 1 + 1 + 1 + 1 = (p * 3 + 1) + 1 + 1 + 1 by omega, show p * 3 + 1 + 1 + 1 + 2 = p * 3 + 2 + 1 + 1 + 1 by omega, List.take_succ_cons, List.drop_succ_cons, tcs_cons]
      simp only [List.set_cons_succ, this]
      rfl

set_option maxHeartbeats 4000000 in
theorem join_any (a b : Option Addr) (n c m d : Nat) (l r : List Tl) (w : World) (H : TS w a n c l) (G : TS w b m d r) (hn : n ≤ 1000) (hm : m ≤ 1000) :
    Calls Try.prog 19 #[.slice a n c, .slice b m d] w (Ret w.heap.size (Tally.joinSpec l r) w) := by
  by_cases hcc : Tally.chk l = true ∧ Tally.chk r = true
  · obtain ⟨hcl, hcr⟩ := hcc
    have hE := Tally.chkE_t hcl
    have hE' := Tally.chkE_t hcr
    have hor : Tally.or2 0 0 = 0 := rfl
    have hres := Lib.hid (Tally.joinSpec_t hcl hcr)
    have hsl := (Tally.chk_iff.1 hcl).1
    have hsr := (Tally.chk_iff.1 hcr).1
    clear hcl hcr
    go_enter Try.func19, Try.ntmps19
    go_wp2_with fail
    go_step3
    go_wp2_with fail
    refine (check_any a n c l _ H).mono ?_
    rintro e w1 ⟨rfl, hb1⟩
    have H1 := H.below hb1 (Nat.le_refl _)
    have G1 := G.below hb1 (Nat.le_refl _)
    go_wp2_with fail
    refine (check_any b m d r _ G1).mono ?_
    rintro e w2 ⟨rfl, hb2⟩
    have H2 := H1.below hb2 (Nat.le_refl _)
    have G2 := G1.below hb2 (Nat.le_refl _)
    have hB2 := hb1.trans (hb2.mono hb1.size)
    obtain ⟨p0, p1⟩ := cell_new2 w2 (.int .i64 0) (.int .i64 0) 27
    go_wp2_with fail
    refine (or27_any w2.heap.size 0 0 _ p0 p1).mono ?_
    rintro e w3 ⟨rfl, rfl⟩
    have hB3 : Below w.heap.size w (w2.alloc (.cells #[.int .i64 0, .int .i64 0] 27)) := hB2.alloc hB2.size _
    have hB23 : Below w2.heap.size w2 (w2.alloc (.cells #[.int .i64 0, .int .i64 0] 27)) := (Below.refl _ _).alloc (Nat.le_refl _) _
    have H3 := H2.below hB23 (Nat.le_refl _)
    have G3 := G2.below hB23 (Nat.le_refl _)
    obtain ⟨W3, hW3⟩ : ∃ W3, W3 = w2.alloc (.cells #[.int .i64 0, .int .i64 0] 27) := ⟨_, rfl⟩
    rw [← hW3] at hB3 hB23 H3 G3 ⊢
    clear hW3 p0 p1
    go_wp2_with fail
    refine (clone_any a n c _ W3 H3.reads (tcs_one l) (by omega)).mono ?_
    rintro e w4 ⟨v0, rfl, hown0, hb4⟩
    have G4 := G3.below hb4 (Nat.le_refl _)
    have hB4 := hB3.trans (hb4.mono hB3.size)
    have hgle := G4.le
    have hgmx := G4.max
    go_wp2_with fail
    go_step3
    go_wp2_with fail
    go_loopw [4, 23] (fun xv iv wr => ∃ (k : Nat) (x : List Tl), k ≤ m ∧ iv = .int .i64 k ∧ x.length ≤ n + k ∧ Tally.Sorted (-1) x ∧ Tally.WF x ∧
        Tally.join x (r.drop k) = Tally.join l r ∧ wr.ownsRow W3.heap.size 38 3 xv x.length (tcs x) ∧ Below w4.heap.size w4 w4 ∧ Below W3.heap.size W3 wr)
      (fun _ i _ => m - (intOf i).toNat)
    case atStart => exact ⟨0, l, Nat.zero_le _, rfl, by rw [H.len]; omega, hsl, H.wf, rfl, by rw [H.len]; exact hown0, Below.refl _ _, hb4⟩
    case round =>
      obtain ⟨k, x, hk, rfl, hxl, hsx, hwx, hinv, hown, _, hb⟩ := hrel
      have hsz2 : W3.heap.size ≤ wr.heap.size := hb.size
      by_cases hlt : k < m
      · obtain ⟨b, off, rfl, hbs, hc⟩ := G3.cells (by omega)
        have hkl : k < r.length := by rw [G.len]; exact hlt
        obtain ⟨c0, c1, c2⟩ := hc k r[k] (List.getElem?_eq_getElem hkl)
        rw [← hb.cell (p := ⟨b, _, none⟩) hbs] at c0 c1 c2
        have hwt := G.wf r[k] (List.getElem_mem hkl)
        have hst := hsr.all r[k] (List.getElem_mem hkl)
        rw [List.drop_eq_getElem_cons hkl, Tally.join_cons] at hinv
        generalize r[k] = t at *
        obtain ⟨t0, t1, t2⟩ := cell_new3 wr (.int .i64 t.d) (.int .i64 t.s) (.int .i64 t.n) 38
        obtain ⟨WT, hWT⟩ : ∃ WT, WT = wr.alloc (.cells #[.int .i64 t.d, .int .i64 t.s, .int .i64 t.n] 38) := ⟨_, rfl⟩
        have hbT : Below W3.heap.size W3 WT := by rw [hWT]; exact hb.alloc hb.size _
        have hownT : WT.ownsRow W3.heap.size 38 3 u4 x.length (tcs x) := by rw [hWT]; exact hown.alloc _
        have hszT : WT.heap.size = wr.heap.size + 1 := by rw [hWT]; simp
        rw [← hWT] at t0 t1 t2
        have hvne : ∀ q, u4.ownBlock = some q → W3.heap.size ≤ q ∧ q < wr.heap.size := hown.lt
        obtain ⟨ax, cx, rfl, TX, hax⟩ := ts_of_owns hownT hwx
        have hownT' := Lib.hid hownT
        have hvne' := Lib.hid hvne
        have hinv' := Lib.hid hinv
        have hax' := Lib.hid hax
        clear hown hownT hc hkl hvne hinv hax
        go_wp2_with fail
        rw [← hWT]
        refine (place_any ax x.length cx x t.d WT TX hsx (by omega)).mono ?_
        rintro e w5 ⟨rfl, hb5⟩
        have s0 := (hb5.cell (p := ⟨wr.heap.size, 0, none⟩) (by show wr.heap.size < WT.heap.size; omega)).trans t0
        have s1 := (hb5.cell (p := ⟨wr.heap.size, 1, none⟩) (by show wr.heap.size < WT.heap.size; omega)).trans t1
        have s2 := (hb5.cell (p := ⟨wr.heap.size, 2, none⟩) (by show wr.heap.size < WT.heap.size; omega)).trans t2
        have hown5 := Lib.hid (Sl.owns_below hownT'.out hb5 (Nat.le_refl _))
        have hB5 : Below W3.heap.size W3 w5 := hbT.trans (hb5.mono hbT.size)
        have hsz5 : WT.heap.size ≤ w5.heap.size := hb5.size
        by_cases hhas : Tally.has t.d x = true
        · obtain ⟨u, hu, hud, hins⟩ := Tally.ins_there hsx hhas
          have hpl := Tally.pos_lt_of_has hsx hhas
          obtain ⟨g, cap, rest, hv, hgB, hgl, hg, hnc, hcm, _⟩ := Sl.owns_row hown5.out (by omega)
          cases hv
          have k1 : w5.cell? ⟨g, Tally.pos t.d x * 3 + 1, none⟩ = some (.int .i64 u.s) := (hown5.out.cellAt _ (by omega)).trans (tcs_get x hu).2.1
          have k2 : w5.cell? ⟨g, Tally.pos t.d x * 3 + 2, none⟩ = some (.int .i64 u.n) := (hown5.out.cellAt _ (by omega)).trans (tcs_get x hu).2.2
          have hp1 : (Tally.pos t.d x : Int) < (x.length : Int) := by omega
          have hp2 : (0 : Int) ≤ (Tally.pos t.d x : Int) := by omega
          have hu' := Lib.hid hu
          have hins' := Lib.hid hins
          have hud' := Lib.hid hud
          clear hg hu hins hud
          unfold maxLen at hcm
          go_wp2_with fail
          go_still_tail 16, (by kernel_rfl)
          still_call ((compare_any t.s u.s _).mono fun _ _ h => ⟨h.1, h.2.symm⟩)
          repeat still_step
          still_call ((compare_any t.n u.n _).mono fun _ _ h => ⟨h.1, h.2.symm⟩)
          repeat still_step
          refine wpStill_nil ?_
          change wpList _ _ _ _ _ w5.drew
          obtain ⟨p0, p1⟩ := cell_new2 w5 (.int .i64 (Tally.cmp t.s u.s)) (.int .i64 (Tally.cmp t.n u.n)) 3
          have p0' : ((w5.alloc (.cells #[.int .i64 (Tally.cmp t.s u.s), .int .i64 (Tally.cmp t.n u.n)] 3)).drew).cell? ⟨w5.heap.size, 0, none⟩ = some (.int .i64 (Tally.cmp t.s u.s)) := p0
          have p1' : ((w5.alloc (.cells #[.int .i64 (Tally.cmp t.s u.s), .int .i64 (Tally.cmp t.n u.n)] 3)).drew).cell? ⟨w5.heap.size, 1, none⟩ = some (.int .i64 (Tally.cmp t.n u.n)) := p1
          have q0 := Lib.hid p0'
          have q1 := Lib.hid p1'
          clear p0 p1 p0' p1'
          have hlt5 : wr.heap.size < w5.heap.size := by omega
          have hBA := hB5.alloc hB5.size (Obj.cells #[.int .i64 (Tally.cmp t.s u.s), .int .i64 (Tally.cmp t.n u.n)] 3)
          by_cases hgt : 0 < Tally.or2 (Tally.cmp t.s u.s) (Tally.cmp t.n u.n)
          · have hmx := Lib.hid (Tally.greater_t hgt)
            have k0 : w5.cell? ⟨g, Tally.pos t.d x * 3, none⟩ = some (.int .i64 u.d) := (hown5.out.cellAt _ (by omega)).trans (tcs_get x hu'.out).1
            have f0 := hown5.out.frozenAt (Tally.pos t.d x * 3)
            have f1 := hown5.out.frozenAt (Tally.pos t.d x * 3 + 1)
            have f2 := hown5.out.frozenAt (Tally.pos t.d x * 3 + 2)
            have hgw : ¬ g = wr.heap.size := by
              intro e; have := (hvne'.out g rfl).2; omega
            go_wp2_with (go_at_call 30; refine (or3_any _ _ _ _ q0.out q1.out).mono ?_; rintro e w6 ⟨rfl, rfl⟩)
            go_roundw
            case rel =>
              have hownA := (((hown5.out.stored (Tally.pos t.d x * 3) (.int .i64 t.d)).1.stored (Tally.pos t.d x * 3 + 1) (.int .i64 t.s)).1.stored (Tally.pos t.d x * 3 + 2) (.int .i64 t.n)).1
              rw [tcs_set3 x _ _ _ hu'.out] at hownA
              have e1 : (Tally.ins t x).length = x.length := by rw [hins'.out]; simp; omega
              refine ⟨k + 1, Tally.ins t x, by omega, by go_num, by omega, Tally.ins_sorted hsx hst, Tally.ins_wf hwx hwt, hinv'.out, ?_, Below.refl _ _, ((((hB5.setCell (p := ⟨g, _, none⟩) hgB _).setCell (p := ⟨g, _, none⟩) hgB _).setCell (p := ⟨g, _, none⟩) hgB _).alloc (by simp; omega) _).drew⟩
              rw [e1, hins'.out, hmx.out, tcs_append, tcs_append]
              exact (hownA.alloc _).drew
            case measure => simp [intOf]; omega
          · have hmx := Lib.hid (Tally.greater_f hgt)
            go_wp2_with (go_at_call 30; refine (or3_any _ _ _ _ q0.out q1.out).mono ?_; rintro e w6 ⟨rfl, rfl⟩)
            go_roundw
            case rel =>
              have e1 : Tally.ins t x = x := by
                rw [hins'.out, hmx.out]
                have := (List.getElem?_eq_some_iff.1 hu'.out).2
                rw [List.append_assoc, ← this, List.singleton_append, List.getElem_cons_drop, List.take_append_drop]
              refine ⟨k + 1, Tally.ins t x, by omega, by go_num, by rw [e1]; omega, Tally.ins_sorted hsx hst, Tally.ins_wf hwx hwt, hinv'.out, ?_, Below.refl _ _, hBA.drew⟩
              rw [e1]
              exact (hown5.out.alloc (Obj.cells #[.int .i64 (Tally.cmp t.s u.s), .int .i64 (Tally.cmp t.n u.n)] 3)).drew
            case measure => simp [intOf]; omega
        · have hhas' : Tally.has t.d x = false := by simpa using hhas
          have hins := Lib.hid (Tally.ins_new hsx hhas')
          have hple := Tally.pos_le t.d x
          clear hhas
          go_wp2_with fail
          have hvb : (w5.alloc (.cells #[.int .i64 t.d, .int .i64 t.s, .int .i64 t.n] 38)).heap[w5.heap.size]? = some (.cells ([.int .i64 t.d, .int .i64 t.s, .int .i64 t.n] : List Value).toArray 38 (0, 0)) := heap_alloc_new w5 _
          refine (insert_any W3.heap.size _ x.length (Tally.pos t.d x) (tcs x) [.int .i64 t.d, .int .i64 t.s, .int .i64 t.n] _ (hown5.out.alloc _) hple (tcs_one x) w5.heap.size hvb
            (fun q hq e => by have := (hown5.out.lt q hq).2; omega) rfl (tcs_one [t]) (by have := hB5.size; simp; omega) (by omega)).mono ?_
          rintro e w6 ⟨v', rfl, hown6, hb6⟩
          have hown6' := Lib.hid hown6
          clear hown6 hvb
          go_wp2_with fail
          go_roundw
          case rel =>
            refine ⟨k + 1, Tally.ins t x, by omega, by go_num, ?_, Tally.ins_sorted hsx hst, Tally.ins_wf hwx hwt, hinv'.out, ?_, Below.refl _ _, (hB5.alloc hB5.size _).trans hb6⟩
            · have := Tally.ins_length x t; omega
            · have e1 : (Tally.ins t x).length = x.length + 1 := by rw [hins.out]; simp; omega
              rw [e1, hins.out, tcs_append, tcs_append, tcs_take, tcs_drop]
              exact hown6'.out
          case measure => simp [intOf]; omega
      · have hkn : k = m := by omega
        subst hkn
        have hfin : Hid (Tally.joinSpec l r = (x, 0)) := by
          rw [List.drop_eq_nil_of_le (by rw [G.len]; omega), Tally.join_nil] at hinv
          show _ = _
          rw [hres.out, hinv]
        have hown' := Lib.hid hown
        clear hinv hown
        go_wp2_with fail
        rw [Exit.noGoto_ret]
        go_ret2
        refine ⟨u4, by rw [hfin.out]; rfl, ?_, hB3.trans (hb.mono (hB3.size))⟩
        rw [hfin.out]
        exact Sl.owns_mono hown'.out hB3.size
  · have hor := Tally.or2_chk hcc
    have hres := Lib.hid (Tally.joinSpec_f hcc)
    clear hcc
    go_enter Try.func19, Try.ntmps19
    go_wp2_with fail
    go_step3
    go_wp2_with fail
    refine (check_any a n c l _ H).mono ?_
    rintro e w1 ⟨rfl, hb1⟩
    have H1 := H.below hb1 (Nat.le_refl _)
    have G1 := G.below hb1 (Nat.le_refl _)
    go_wp2_with fail
    refine (check_any b m d r _ G1).mono ?_
    rintro e w2 ⟨rfl, hb2⟩
    have hB2 := hb1.trans (hb2.mono hb1.size)
    obtain ⟨p0, p1⟩ := cell_new2 w2 (.int .i64 (Tally.chkE l)) (.int .i64 (Tally.chkE r)) 27
    go_wp2_with fail
    refine (or27_any w2.heap.size _ _ _ p0 p1).mono ?_
    rintro e w3 ⟨rfl, rfl⟩
    have hB3 : Below w.heap.size w (w2.alloc (.cells #[.int .i64 (Tally.chkE l), .int .i64 (Tally.chkE r)] 27)) := hB2.alloc hB2.size _
    go_wp2_with fail
    rw [Exit.noGoto_ret]
    go_ret2
    refine ⟨.slice none 0 0, by rw [hres.out]; rfl, ?_, hB3⟩
    rw [hres.out]
    exact World.ownsRow_nil _ _ _ _

end Go.Proofs.Ytlmngdcifappoaa
