/- the reference 30: Fetch, Delete, Put -/
import Derived.Test.YtnonfdcbnkdmcaaGreatDoorRsC
namespace Go.Mem
open Go.RowKit
variable {P : Program}
end Go.Mem
namespace Go.Sto
end Go.Sto
namespace Go.Proofs.YtnonfdcbnkdmcaaGreatDoor
open Go.RowKit Go.Mem
open Go.Sto (Ent Lg St)
def FeX (l : List Ent) (q : Int) (w : World) (e : Ending) (w' : World) : Prop := ∃ a c, e = .returned (.tuple #[.slice a l.length c, .int .i64 q]) ∧ ES (fun _ => True) w' a l.length c l ∧ Below w.heap.size w w'

set_option maxRecDepth 20000 in
set_option maxHeartbeats 2000000 in
theorem r30fetch_any (a : Option Addr) (n c : Nat) (s : St) (f fr : Int) (hfr : I64 fr) (w : World) (H : SV (fun _ => True) w a n c s) :
    Calls Tryz.prog 85 #[.agg #[.int .i64 s.id, .int .i64 s.priv, .slice a n c], .int .i64 f, .int .i64 fr] w (FeX (Sto.fetchS s f fr).1 (Sto.fetchS s f fr).2 w) := by
  obtain ⟨sb, hsb⟩ : ∃ sb, Hid (w.heap.size = sb) := ⟨_, rfl⟩
  obtain ⟨W0, hW0⟩ : ∃ W, Hid (w.alloc (.cells #[.int .i64 s.id, .int .i64 s.priv, .slice a n c] 24) = W) := ⟨_, rfl⟩
  have hB : Hid (Blk W0 sb 24 (stC s a n c)) := by rw [← hW0.out, ← hsb.out]; exact Blk.new w _ (stC s a n c)
  have hb : Hid (Below w.heap.size w W0) := by rw [← hW0.out]; exact (Below.refl _ w).alloc (Nat.le_refl _) _
  have H' := Lib.hid (H.below hb.out)
  have hop := Lib.hid (r30open_any (fun _ => True) a n c s f W0 H'.out)
  clear H
  obtain ⟨fl, fh⟩ := hfr
  obtain ⟨X, hX⟩ : ∃ X, X = FeX (Sto.fetchS s f fr).1 (Sto.fetchS s f fr).2 w := ⟨_, rfl⟩
  have hfin : Hid (∀ l q ea ec W, Sto.fetchS s f fr = (l, q) → ES (fun _ => True) W ea l.length ec l → Below W0.heap.size W0 W → X (.returned (.tuple #[.slice ea l.length ec, .int .i64 q])) W) := fun l q ea ec W h1 h2 h3 => by
    rw [hX, h1]; exact ⟨ea, ec, rfl, h2, hb.out.trans (h3.mono hb.out.size)⟩
  have hfe : Hid (∀ q W, Sto.fetchS s f fr = ([], q) → Below W0.heap.size W0 W → X (.returned (.tuple #[.slice none 0 0, .int .i64 q])) W) := fun q W h1 h3 => hfin.out [] q none 0 W h1 (ES.nil0 _ _) h3
  rw [← hX]
  clear hX
  have s0 : W0.cell? ⟨sb, 0, none⟩ = some (.int .i64 s.id) := hB.out.at_ (i := 0) rfl
  have s1 : W0.cell? ⟨sb, 1, none⟩ = some (.int .i64 s.priv) := hB.out.at_ (i := 1) rfl
  have s2 : W0.cell? ⟨sb, 2, none⟩ = some (.slice a n c) := hB.out.at_ (i := 2) rfl
  obtain ⟨q, hq⟩ : ∃ q, Hid (Sto.openE s f = q) := ⟨_, rfl⟩
  rw [hq.out] at hop
  go_enter Tryz.func85, Tryz.ntmps85
  go_upto_region 1 with fail
  rw [hsb.out]
  generalize hWq : w.alloc _ = Wq
  obtain rfl : W0 = Wq := by rw [← hWq]; exact hW0.out.symm
  clear hWq hW0
  go_wp2_with fail
  refine hop.out.mono ?_
  rintro e w1 ⟨rfl, hb1⟩
  clear s0 s1 s2
  by_cases hq0 : q = 0
  · subst hq0
    have s0 := (hB.out.below hb1 hB.out.lt).at_ (i := 0) rfl
    have s1 := (hB.out.below hb1 hB.out.lt).at_ (i := 1) rfl
    have s2 := (hB.out.below hb1 hB.out.lt).at_ (i := 2) rfl
    have hen := Lib.hid (r30ents_any (fun _ => True) a n c s f w1 (H'.out.below hb1))
    have hv : Hid (Sto.fetchS s f fr = if 1 ≤ fr ∧ fr ≤ (Sto.ents s f).length + 1 then ((Sto.ents s f).drop (fr - 1).toNat, 0) else ([], 1)) := by show _ = _; unfold Sto.fetchS; rw [if_pos hq.out]
    have hb1' := Lib.hid hb1
    clear hb1 hop hB
    go_wp2_with fail
    refine hen.out.mono ?_
    rintro e w2 ⟨ea, ec, rfl, hES, hb2⟩
    have hb2' := Lib.hid (hb1'.out.trans (hb2.mono hb1'.out.size))
    clear s0 s1 s2 hen hb2 hb1' hq
    generalize Sto.ents s f = l at *
    have hle := hES.rs.le
    have hmx := hES.rs.max
    have hbd := hES.bd
    obtain ⟨m, hm⟩ : ∃ m, l.length = m := ⟨_, rfl⟩
    rw [hm] at hES hle hbd hv ⊢
    have hES' := Lib.hid hES
    have hmw : IntKind.i64.wrap ((m : Int) + 1) = (m : Int) + 1 := IntWalk.i64_in _ (by omega)
    by_cases h1 : 1 ≤ fr
    · have q1 : decide (fr < 1) = false := decide_eq_false (by omega)
      obtain ⟨j, hfj⟩ : ∃ j : Nat, fr - 1 = (j : Int) := ⟨(fr - 1).toNat, by omega⟩
      by_cases h2 : j ≤ m
      · have q2 : decide ((m : Int) + 1 < fr) = false := decide_eq_false (by omega)
        have hv2 : Hid (Sto.fetchS s f fr = (l.drop j, 0)) := by show _ = _; rw [hv.out, if_pos ⟨h1, by omega⟩, show (fr - 1).toNat = j by omega]
        have j0 : (0 : Int) ≤ (j : Int) := by omega
        have j1 : (j : Int) ≤ (m : Int) := by omega
        have hjw : IntKind.i64.wrap (j : Int) = (j : Int) := IntWalk.i64_in _ (by omega)
        have hle' : (m : Int) ≤ (ec : Int) := by omega
        clear hv hfe
        have hm' := Lib.hid hm
        clear hm
        cases ea with
        | none =>
          obtain ⟨hn0, hc0⟩ := hES.rs.nil' rfl
          subst hn0 hc0
          obtain rfl : l = [] := List.eq_nil_of_length_eq_zero hm'.out
          obtain rfl : j = 0 := by omega
          have hend := Lib.hid (hfin.out [] 0 none 0 w2 hv2.out (ES.nil0 _ _) hb2'.out)
          clear hES hES' hfin
          go_wp2_with fail
          exact hend.out
        | some ad =>
          by_cases hl0 : m = 0
          · subst hl0
            obtain rfl : l = [] := List.eq_nil_of_length_eq_zero hm'.out
            obtain rfl : j = 0 := by omega
            have hend := Lib.hid (hfin.out [] 0 (some ad) ec w2 hv2.out hES hb2'.out)
            clear hES hES' hfin
            go_wp2_with fail
            exact hend.out
          · obtain ⟨b, off, e1, _, _⟩ := hES.rs.block_lt (by omega)
            cases e1
            have hcut := hES.rs.cut (k := j) h2
            have hdl : (l.drop j).length = m - j := by rw [List.length_drop, hm'.out]
            by_cases hej : ec = j
            · rw [if_pos hej] at hcut
              subst hej
              obtain rfl : m = ec := by omega
              rw [Nat.sub_self] at hcut hdl
              have hend := Lib.hid (hfin.out (l.drop m) 0 _ 0 w2 hv2.out (by rw [hdl]; exact ⟨hcut, by omega⟩) hb2'.out)
              rw [hdl] at hend
              clear hES hES' hfin hcut hdl
              go_wp2_with fail
              exact hend.out
            · rw [if_neg hej] at hcut
              have hend := Lib.hid (hfin.out (l.drop j) 0 _ _ w2 hv2.out (by rw [hdl]; exact ⟨hcut, by omega⟩) hb2'.out)
              rw [hdl] at hend
              clear hES hES' hfin hcut hdl
              go_wp2_with fail
              exact hend.out
      · have q2 : decide ((m : Int) + 1 < fr) = true := decide_eq_true (by omega)
        have hend := Lib.hid (hfe.out 1 w2 (by rw [hv.out, if_neg (by omega)]) hb2'.out)
        clear hES hES' hfin hv
        go_wp2_with fail
        exact hend.out
    · have q1 : decide (fr < 1) = true := decide_eq_true (by omega)
      have hend := Lib.hid (hfe.out 1 w2 (by rw [hv.out, if_neg (fun h => h1 h.1)]) hb2'.out)
      clear hES hES' hfin hv
      go_wp2_with fail
      exact hend.out
  · have q0 : (q != 0) = true := by simpa using hq0
    have hend := Lib.hid (hfe.out q w1 (by unfold Sto.fetchS; rw [if_neg (by rw [hq.out]; exact hq0), hq.out]) hb1)
    clear hfin hop hfe
    go_wp2_with fail
    exact hend.out

/-- an owned row of entries; their data lie below D. -/
def OwnR (D B : Nat) (W : World) (v : Value) (l : List Ent) : Prop := ∃ rows, W.ownsRow B 75 35 v l.length rows.flatten ∧ RowsOf 35 (EV (fun b => b < D) W) l rows
theorem infoEnV : (Tryz.prog.info? 75).map (fun i => (i.zero.map (·.cells.size), i.size, i.bytes)) = some (some 35, 35, 72) := by kernel_rfl
theorem info_partsEV : ∃ i0, Tryz.prog.info? 75 = some i0 ∧ (∃ z, i0.zero = some z ∧ z.cells.size = 35) ∧ i0.size = 35 ∧ i0.bytes = 72 := by
  have h := infoEnV
  cases hq : Tryz.prog.info? 75 with
  | none => rw [hq] at h; simp at h
  | some i =>
    rw [hq] at h
    simp only [Option.map_some, Option.some.injEq, Prod.mk.injEq, Option.map_eq_some_iff] at h
    exact ⟨i, rfl, h.1, h.2.1, h.2.2⟩
theorem append_ents {D B q : Nat} {W : World} {a : Option Addr} {n c : Nat} {l : List Ent} (hD : D ≤ B) (hq : B ≤ q) (hB : B ≤ W.heap.size) (hc : Blk W q 75 []) (H : ES (fun b => b < D) W a n c l) :
    ∃ v' W', (∀ ty, (Builtin.append_ #[30, 30] ty #[.slice (some ⟨q, 0, none⟩) 0 0, .slice a n c]).run Tryz.prog W = .ok v' W') ∧ OwnR D B W' v' l ∧ W.grownBy W' (some q) ∧ (v'.ownBlock = some q ∨ v'.ownBlock = some W.heap.size) := by
  obtain ⟨i0, hi, ⟨z, hz0, hzs⟩, hz1, hz2⟩ := info_partsEV
  have hbd := H.bd
  have hlen := H.rs.len
  obtain ⟨rows, hR, hO⟩ := H.rs.rows
  have hown : W.ownsRow B 75 35 (.slice (some ⟨q, 0, none⟩) 0 0) 0 [] := ⟨rfl, Or.inr ⟨q, 0, #[], rfl, hq, hc, Nat.le_refl _, by unfold maxLen; omega, rfl, rfl⟩⟩
  cases a with
  | none =>
    obtain ⟨rfl, rfl⟩ := hR.nil rfl
    obtain rfl : l = [] := List.eq_nil_of_length_eq_zero hlen
    refine ⟨_, W, fun ty => ?_, ⟨[], hown, RowsOf.nil⟩, World.grownBy.refl W _, .inl rfl⟩
    simp [Builtin.append_, run_underlying Tryz.underlying30, sizeOf, typeInfo, hi, Builtin.lenOf, Builtin.firstCells, storeCells]
  | some ad =>
    obtain ⟨v', w', hrun, h2, h3, _, h5⟩ := run_append_own_at (P := Tryz.prog) (w := W) B 30 0 75 i0 z 35 72 Tryz.underlying30 hi hz0 hz1 hz2 hzs (by omega) _ 0 [] hown ad n c rows.flatten hR.len (fun j u hj => hR.news j u hj) (rows_one hO fun _ _ h => EV.one h) (by unfold maxLen; omega) (by omega) hB
    refine ⟨v', w', fun ty => by rw [← hrun]; rfl, ⟨rows, ?_, hO.imp fun _ _ h => h.keep ⟨h3.size, fun b hb hk => h3.block b hb (fun e => by simp only [Value.ownBlock, Option.some.injEq] at e; omega)⟩⟩, h3, h5⟩
    rw [hlen]
    simpa using h2
theorem empty_ents (W : World) : (Instr.buildSlice 30 0 #[]).run Tryz.prog W = .ok (.slice (some ⟨W.heap.size, 0, none⟩) 0 0) (W.alloc (.cells #[] 75)) := by kernel_rfl

/-- the boxes of Put and Delete. -/
structure PuW (w : World) (sb : Nat) (s : St) (a : Option Addr) (n c : Nat) (W : World) : Prop where
  bS : Blk W sb 24 (stC s a n c)
  bR : Blk W (sb + 1) 24 [.int .i64 0, .int .i64 0, .slice none 0 0]
  bel : Below w.heap.size w W
theorem PuW.next {w W W2 : World} {sb : Nat} {s : St} {a : Option Addr} {n c : Nat} (h : PuW w sb s a n c W) (hb : Below W.heap.size W W2) : PuW w sb s a n c W2 := ⟨h.bS.below hb h.bS.lt, h.bR.below hb h.bR.lt, h.bel.trans (hb.mono h.bel.size)⟩
theorem PuW.new (w : World) (s : St) (a : Option Addr) (n c : Nat) : PuW w w.heap.size s a n c ((w.alloc (.cells #[.int .i64 s.id, .int .i64 s.priv, .slice a n c] 24)).alloc (.cells #[.int .i64 0, .int .i64 0, .slice none 0 0] 24)) := by
  refine ⟨(Blk.new w _ (stC s a n c)).alloc _, ?_, ((Below.refl _ w).alloc (Nat.le_refl _) _).alloc (by simp) _⟩
  have := Blk.new (w.alloc (.cells (stC s a n c).toArray 24)) 24 [.int .i64 0, .int .i64 0, .slice none 0 0]
  rwa [World.size_alloc] at this
theorem PuW.grown {w W W2 : World} {sb g : Nat} {s : St} {a : Option Addr} {n c : Nat} (h : PuW w sb s a n c W) (hsb : w.heap.size = sb) (hg : W.grownBy W2 (some g)) (hne : sb + 1 < g) : PuW w sb s a n c W2 :=
  ⟨h.bS.grown hg (fun e => by injection e with e; omega), h.bR.grown hg (fun e => by injection e with e; omega), below_grown h.bel hg h.bel.size (by omega)⟩
/-- what a store handed to the result's box leaves. -/
theorem PuW.fin {w W : World} {sb : Nat} {s : St} {a : Option Addr} {n c : Nat} (h : PuW w sb s a n c W) (hsb : w.heap.size = sb) (y0 y1 y2 : Value) :
    Blk (((W.setCell ⟨sb + 1, 0, none⟩ y0).setCell ⟨sb + 1, 1, none⟩ y1).setCell ⟨sb + 1, 2, none⟩ y2) (sb + 1) 24 [y0, y1, y2] ∧ Below w.heap.size w (((W.setCell ⟨sb + 1, 0, none⟩ y0).setCell ⟨sb + 1, 1, none⟩ y1).setCell ⟨sb + 1, 2, none⟩ y2) :=
  ⟨copied_set h.bR _ _ _, ((h.bel.setCell (p := ⟨sb + 1, 0, none⟩) (by show w.heap.size ≤ sb + 1; omega) _).setCell (p := ⟨sb + 1, 1, none⟩) (by show w.heap.size ≤ sb + 1; omega) _).setCell (p := ⟨sb + 1, 2, none⟩) (by show w.heap.size ≤ sb + 1; omega) _⟩
end Go.Proofs.YtnonfdcbnkdmcaaGreatDoor

