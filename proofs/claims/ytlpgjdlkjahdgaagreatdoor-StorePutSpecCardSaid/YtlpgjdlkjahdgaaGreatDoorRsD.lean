/- the reference 30: Fetch, Delete, Put -/
import Derived.Test.YtlpgjdlkjahdgaaGreatDoorRsC
namespace Go.Mem
open Go.RowKit
variable {P : Program}
theorem results_cell_tmp_tmpV {fn : Func} {p u v : Tmp} {ty : TypeId} (h : fn.results = #[.cell p ty, .tmp u, .tmp v]) (tmps : Array Value) (w : World) :
    (results fn tmps).run P w =
      ((asAddr (tmps.getD p undef)).run P w).andThen fun a w₁ => ((loadVar ty a).run P w₁).andThen fun x w₂ => .ok (.tuple #[x, tmps.getD u undef, tmps.getD v undef]) w₂ := by
  simp only [results, h]
  simp [Sem.run_bind, Result.andThen]
theorem ret_cell_tmp_tmpV {fn : Func} {p u u2 : Tmp} {ty t : TypeId} (h : fn.results = #[.cell p ty, .tmp u, .tmp u2]) {W : World} {g : Nat} {r : List Value} {d : TypeDesc} {v v2 : Value} (hB : Blk W g t r) (hu : P.underlying ty = some d) (hd : d.isRow = true) (hi : (P.info? ty).map (·.size) = some r.length)
    {a : Act} (hp : a.tmps.getD p undef = .pointer (some ⟨g, 0, none⟩)) (hq : a.tmps.getD u undef = v) (hq2 : a.tmps.getD u2 undef = v2) (hdf : a.defers = []) {Post : Ending → World → Prop} (hP : Post (.returned (.tuple #[.agg r.toArray, v, v2])) W) : bodyPost P fn Post .ret a W := by
  refine bodyPost_ret (v := .tuple #[.agg r.toArray, v, v2]) ?_ hdf hP
  rw [results_cell_tmp_tmpV h, hp, hq, hq2]
  simp only [asAddr, Sem.run_pure, Result.andThen_ok, load_blkV hB hu hd hi]
end Go.Mem
namespace Go.Sto
theorem delS_at {s : St} {f no : Int} {j : Nat} {x : Ent} (hq : openE s f = 0) (h1 : 1 ≤ no) (h2 : no ≤ (ents s f).length) (hj : no - 1 = (j : Int)) (hx : (ents s f)[j]? = some x) : delS s f no = if x.kind = 4 then (replS s f (delL (ents s f) j), 0) else (zeroS, 300) := by
  unfold delS
  rw [if_pos hq, if_pos ⟨h1, h2⟩, hj, Int.toNat_natCast, hx]
theorem delS_bad {s : St} {f no : Int} (hq : openE s f = 0) (h : ¬ (1 ≤ no ∧ no ≤ (ents s f).length)) : delS s f no = (zeroS, 1) := by
  unfold delS
  rw [if_pos hq, if_neg h]
end Go.Sto
namespace Go.Proofs.YtlpgjdlkjahdgaaGreatDoor
open Go.RowKit Go.Mem
open Go.Sto (Ent Lg St)
theorem shareV {p G : Prop} (h : G → p) (key : G) : p := h key

def FeX (l : List Ent) (q : Int) (w : World) (e : Ending) (w' : World) : Prop := ∃ a c, e = .returned (.tuple #[.slice a l.length c, .int .i64 q]) ∧ ES (fun _ => True) w' a l.length c l ∧ Below w.heap.size w w'

set_option maxRecDepth 20000 in
set_option maxHeartbeats 2000000 in
theorem r30fetch_any (a : Option Addr) (n c : Nat) (s : St) (f fr : Int) (hfr : I64 fr) (w : World) (H : SV (fun _ => True) w a n c s) :
    Calls Tryz.prog 19 #[.agg #[.int .i64 s.id, .int .i64 s.priv, .slice a n c], .int .i64 f, .int .i64 fr] w (FeX (Sto.fetchS s f fr).1 (Sto.fetchS s f fr).2 w) := by
  obtain ⟨sb, hsb⟩ : ∃ sb, Hid (w.heap.size = sb) := ⟨_, rfl⟩
  obtain ⟨W0, hW0⟩ : ∃ W, Hid (w.alloc (.cells #[.int .i64 s.id, .int .i64 s.priv, .slice a n c] 24) = W) := ⟨_, rfl⟩
  have hB : Hid (Blk W0 sb 24 (stC s a n c)) := by rw [← hW0.out, ← hsb.out]; exact Blk.new w _ (stC s a n c)
  have hb : Hid (Below w.heap.size w W0) := by rw [← hW0.out]; exact (Below.refl _ w).alloc (Nat.le_refl _) _
  have H' := Lib.hid (H.below hb.out)
  have hop := Lib.hid (r30open_any (fun _ => True) a n c s f W0 H'.out)
  clear H
  obtain ⟨fl, fh⟩ := hfr
  obtain ⟨X, hX⟩ : ∃ X, X = FeX (Sto.fetchS s f fr).1 (Sto.fetchS s f fr).2 w := ⟨_, rfl⟩
  have hfin : Hid (∀ l q ea ec W, Sto.fetchS s f fr = (l, q) → ES (fun _ => True) W ea l.length ec l → Below W0.heap.size W0 W → X (.returned (.tuple #[.slice ea l.length ec, .int .i64 q])) W) := fun l q ea ec W h1 h2 h3 => by
    rw [hX, h1]; exact ⟨ea, ec, rfl, h2, hb.out.trans (h3.mono hb.out.size)⟩
  have hfe : Hid (∀ q W, Sto.fetchS s f fr = ([], q) → Below W0.heap.size W0 W → X (.returned (.tuple #[.slice none 0 0, .int .i64 q])) W) := fun q W h1 h3 => hfin.out [] q none 0 W h1 (ES.nil0 _ _) h3
  rw [← hX]
  clear hX
  have s0 : W0.cell? ⟨sb, 0, none⟩ = some (.int .i64 s.id) := hB.out.at_ (i := 0) rfl
  have s1 : W0.cell? ⟨sb, 1, none⟩ = some (.int .i64 s.priv) := hB.out.at_ (i := 1) rfl
  have s2 : W0.cell? ⟨sb, 2, none⟩ = some (.slice a n c) := hB.out.at_ (i := 2) rfl
  obtain ⟨q, hq⟩ : ∃ q, Hid (Sto.openE s f = q) := ⟨_, rfl⟩
  rw [hq.out] at hop
  go_enter Tryz.func19, Tryz.ntmps19
  go_upto_region 1 with fail
  rw [hsb.out]
  generalize hWq : w.alloc _ = Wq
  obtain rfl : W0 = Wq := by rw [← hWq]; exact hW0.out.symm
  clear hWq hW0
  go_wp2_with fail
  refine hop.out.mono ?_
  rintro e w1 ⟨rfl, hb1⟩
  clear s0 s1 s2
  by_cases hq0 : q = 0
  · subst hq0
    have s0 := (hB.out.below hb1 hB.out.lt).at_ (i := 0) rfl
    have s1 := (hB.out.below hb1 hB.out.lt).at_ (i := 1) rfl
    have s2 := (hB.out.below hb1 hB.out.lt).at_ (i := 2) rfl
    have hen := Lib.hid (r30ents_any (fun _ => True) a n c s f w1 (H'.out.below hb1))
    have hv : Hid (Sto.fetchS s f fr = if 1 ≤ fr ∧ fr ≤ (Sto.ents s f).length + 1 then ((Sto.ents s f).drop (fr - 1).toNat, 0) else ([], 1)) := by show _ = _; unfold Sto.fetchS; rw [if_pos hq.out]
    have hb1' := Lib.hid hb1
    clear hb1 hop hB
    go_wp2_with fail
    refine hen.out.mono ?_
    rintro e w2 ⟨ea, ec, rfl, hES, hb2⟩
    have hb2' := Lib.hid (hb1'.out.trans (hb2.mono hb1'.out.size))
    clear s0 s1 s2 hen hb2 hb1' hq
    generalize Sto.ents s f = l at *
    have hle := hES.rs.le
    have hmx := hES.rs.max
    have hbd := hES.bd
    obtain ⟨m, hm⟩ : ∃ m, l.length = m := ⟨_, rfl⟩
    rw [hm] at hES hle hbd hv ⊢
    have hES' := Lib.hid hES
    have hmw : IntKind.i64.wrap ((m : Int) + 1) = (m : Int) + 1 := IntWalk.i64_in _ (by omega)
    by_cases h1 : 1 ≤ fr
    · have q1 : decide (fr < 1) = false := decide_eq_false (by omega)
      obtain ⟨j, hfj⟩ : ∃ j : Nat, fr - 1 = (j : Int) := ⟨(fr - 1).toNat, by omega⟩
      by_cases h2 : j ≤ m
      · have q2 : decide ((m : Int) + 1 < fr) = false := decide_eq_false (by omega)
        have hv2 : Hid (Sto.fetchS s f fr = (l.drop j, 0)) := by show _ = _; rw [hv.out, if_pos ⟨h1, by omega⟩, show (fr - 1).toNat = j by omega]
        have j0 : (0 : Int) ≤ (j : Int) := by omega
        have j1 : (j : Int) ≤ (m : Int) := by omega
        have hjw : IntKind.i64.wrap (j : Int) = (j : Int) := IntWalk.i64_in _ (by omega)
        have hle' : (m : Int) ≤ (ec : Int) := by omega
        clear hv hfe
        have hm' := Lib.hid hm
        clear hm
        cases ea with
        | none =>
          obtain ⟨hn0, hc0⟩ := hES.rs.nil' rfl
          subst hn0 hc0
          obtain rfl : l = [] := List.eq_nil_of_length_eq_zero hm'.out
          obtain rfl : j = 0 := by omega
          have hend := Lib.hid (hfin.out [] 0 none 0 w2 hv2.out (ES.nil0 _ _) hb2'.out)
          clear hES hES' hfin
          go_wp2_with fail
          exact hend.out
        | some ad =>
          by_cases hl0 : m = 0
          · subst hl0
            obtain rfl : l = [] := List.eq_nil_of_length_eq_zero hm'.out
            obtain rfl : j = 0 := by omega
            have hend := Lib.hid (hfin.out [] 0 (some ad) ec w2 hv2.out hES hb2'.out)
            clear hES hES' hfin
            go_wp2_with fail
            exact hend.out
          · obtain ⟨b, off, e1, _, _⟩ := hES.rs.block_lt (by omega)
            cases e1
            have hcut := hES.rs.cut (k := j) h2
            have hdl : (l.drop j).length = m - j := by rw [List.length_drop, hm'.out]
            by_cases hej : ec = j
            · rw [if_pos hej] at hcut
              subst hej
              obtain rfl : m = ec := by omega
              rw [Nat.sub_self] at hcut hdl
              have hend := Lib.hid (hfin.out (l.drop m) 0 _ 0 w2 hv2.out (by rw [hdl]; exact ⟨hcut, by omega⟩) hb2'.out)
              rw [hdl] at hend
              clear hES hES' hfin hcut hdl
              go_wp2_with fail
              exact hend.out
            · rw [if_neg hej] at hcut
              have hend := Lib.hid (hfin.out (l.drop j) 0 _ _ w2 hv2.out (by rw [hdl]; exact ⟨hcut, by omega⟩) hb2'.out)
              rw [hdl] at hend
              clear hES hES' hfin hcut hdl
              go_wp2_with fail
              exact hend.out
      · have q2 : decide ((m : Int) + 1 < fr) = true := decide_eq_true (by omega)
        have hend := Lib.hid (hfe.out 1 w2 (by rw [hv.out, if_neg (by omega)]) hb2'.out)
        clear hES hES' hfin hv
        go_wp2_with fail
        exact hend.out
    · have q1 : decide (fr < 1) = true := decide_eq_true (by omega)
      have hend := Lib.hid (hfe.out 1 w2 (by rw [hv.out, if_neg (fun h => h1 h.1)]) hb2'.out)
      clear hES hES' hfin hv
      go_wp2_with fail
      exact hend.out
  · have q0 : (q != 0) = true := by simpa using hq0
    have hend := Lib.hid (hfe.out q w1 (by unfold Sto.fetchS; rw [if_neg (by rw [hq.out]; exact hq0), hq.out]) hb1)
    clear hfin hop hfe
    go_wp2_with fail
    exact hend.out

/-- an owned row of entries; their data lie below D. -/
def OwnR (D B : Nat) (W : World) (v : Value) (l : List Ent) : Prop := ∃ rows, W.ownsRow B 81 35 v l.length rows.flatten ∧ RowsOf 35 (EV (fun b => b < D) W) l rows
theorem infoEnV : (Tryz.prog.info? 81).map (fun i => (i.zero.map (·.cells.size), i.size, i.bytes)) = some (some 35, 35, 72) := by kernel_rfl
theorem info_partsEV : ∃ i0, Tryz.prog.info? 81 = some i0 ∧ (∃ z, i0.zero = some z ∧ z.cells.size = 35) ∧ i0.size = 35 ∧ i0.bytes = 72 := by
  have h := infoEnV
  cases hq : Tryz.prog.info? 81 with
  | none => rw [hq] at h; simp at h
  | some i =>
    rw [hq] at h
    simp only [Option.map_some, Option.some.injEq, Prod.mk.injEq, Option.map_eq_some_iff] at h
    exact ⟨i, rfl, h.1, h.2.1, h.2.2⟩
theorem append_ents {D B q : Nat} {W : World} {a : Option Addr} {n c : Nat} {l : List Ent} (hD : D ≤ B) (hq : B ≤ q) (hB : B ≤ W.heap.size) (hc : Blk W q 81 []) (H : ES (fun b => b < D) W a n c l) :
    ∃ v' W', (∀ ty, (Builtin.append_ #[36, 36] ty #[.slice (some ⟨q, 0, none⟩) 0 0, .slice a n c]).run Tryz.prog W = .ok v' W') ∧ OwnR D B W' v' l ∧ W.grownBy W' (some q) ∧ (v'.ownBlock = some q ∨ v'.ownBlock = some W.heap.size) := by
  obtain ⟨i0, hi, ⟨z, hz0, hzs⟩, hz1, hz2⟩ := info_partsEV
  have hbd := H.bd
  have hlen := H.rs.len
  obtain ⟨rows, hR, hO⟩ := H.rs.rows
  have hown : W.ownsRow B 81 35 (.slice (some ⟨q, 0, none⟩) 0 0) 0 [] := ⟨rfl, Or.inr ⟨q, 0, #[], rfl, hq, hc, Nat.le_refl _, by unfold maxLen; omega, rfl, rfl⟩⟩
  cases a with
  | none =>
    obtain ⟨rfl, rfl⟩ := hR.nil rfl
    obtain rfl : l = [] := List.eq_nil_of_length_eq_zero hlen
    refine ⟨_, W, fun ty => ?_, ⟨[], hown, RowsOf.nil⟩, World.grownBy.refl W _, .inl rfl⟩
    simp [Builtin.append_, run_underlying Tryz.underlying36, sizeOf, typeInfo, hi, Builtin.lenOf, Builtin.firstCells, storeCells]
  | some ad =>
    obtain ⟨v', w', hrun, h2, h3, _, h5⟩ := run_append_own_at (P := Tryz.prog) (w := W) B 36 0 81 i0 z 35 72 Tryz.underlying36 hi hz0 hz1 hz2 hzs (by omega) _ 0 [] hown ad n c rows.flatten hR.len (fun j u hj => hR.news j u hj) (rows_one hO fun _ _ h => EV.one h) (by unfold maxLen; omega) (by omega) hB
    refine ⟨v', w', fun ty => by rw [← hrun]; rfl, ⟨rows, ?_, hO.imp fun _ _ h => h.keep ⟨h3.size, fun b hb hk => h3.block b hb (fun e => by simp only [Value.ownBlock, Option.some.injEq] at e; omega)⟩⟩, h3, h5⟩
    rw [hlen]
    simpa using h2
theorem append_by0 {q : Nat} {W : World} {a : Option Addr} {m c : Nat} {l : List Nat} (hc : Blk W q 5 []) (H : BW W a m c l) (hn : m ≤ 140737488355328) :
    ∃ a2 c2 W', (∀ ty, (Builtin.append_ #[33, 33] ty #[.slice (some ⟨q, 0, none⟩) 0 0, .slice a m c]).run Tryz.prog W = .ok (.slice a2 m c2) W') ∧ BS W' a2 m c2 l ∧ W.grownBy W' (some q) ∧ (∀ ad, a2 = some ad → ad.block = q ∨ ad.block = W.heap.size) := by
  obtain ⟨i0, hi, hz0, hz1, hz2⟩ := info_parts info5
  have hlt := hc.lt
  have hown : W.ownsRow q 5 1 (.slice (some ⟨q, 0, none⟩) 0 0) 0 [] := ⟨rfl, Or.inr ⟨q, 0, #[], rfl, Nat.le_refl _, hc, Nat.le_refl _, by unfold maxLen; omega, rfl, rfl⟩⟩
  have fin : ∀ v' w' (ho : w'.ownsRow q 5 1 v' m (bv l)) (hl : ∀ x ∈ l, x < 256) (h5 : v'.ownBlock = some q ∨ v'.ownBlock = some W.heap.size), ∃ a2 c2, v' = .slice a2 m c2 ∧ BS w' a2 m c2 l ∧ ∀ ad, a2 = some ad → ad.block = q ∨ ad.block = W.heap.size := fun v' w' ho hl h5 => by
    obtain ⟨a2, c2, rfl, hb⟩ := BS.own ho hl
    refine ⟨a2, c2, rfl, hb, fun ad e => ?_⟩
    subst e
    simpa [Value.ownBlock] using h5
  have go : ∀ (ad : Addr) (hnew : ∀ j u, (bv l)[j]? = some u → W.cell? (ad.add j) = some u) (hln : l.length = m) (hl : ∀ x ∈ l, x < 256), ∃ a2 c2 W', (∀ ty, (Builtin.append_ #[33, 33] ty #[.slice (some ⟨q, 0, none⟩) 0 0, .slice (some ad) m c]).run Tryz.prog W = .ok (.slice a2 m c2) W') ∧ BS W' a2 m c2 l ∧ W.grownBy W' (some q) ∧ (∀ ad, a2 = some ad → ad.block = q ∨ ad.block = W.heap.size) := fun ad hnew hln hl => by
    obtain ⟨v', w', hrun, h2, h3, _, h5⟩ := run_append_own_at (P := Tryz.prog) (w := W) q 33 0 5 i0 _ 1 1 Tryz.underlying33 hi hz0 hz1 hz2 rfl (by omega) _ 0 [] hown ad m c (bv l) (by rw [bv_length, hln]; omega) hnew (bv_one l) (by unfold maxLen; omega) (by omega) (by omega)
    rw [Nat.zero_add, List.nil_append] at h2
    obtain ⟨a2, c2, rfl, hb, hs⟩ := fin v' w' h2 hl h5
    exact ⟨a2, c2, w', fun ty => by rw [← hrun]; rfl, hb, h3, hs⟩
  cases a with
  | some ad =>
    rcases H with H | ⟨rfl, rfl, rfl, _⟩
    · obtain ⟨b, off, rfl, _, hx⟩ := H.cells ad rfl
      refine go _ (fun j u hj => ?_) H.len H.lt
      have hjl := (List.getElem?_eq_some_iff.1 hj).1
      rw [bv_length] at hjl
      rw [bv_get (List.getElem?_eq_getElem hjl)] at hj
      cases hj
      rw [Addr.add_lit]
      exact hx j _ (List.getElem?_eq_getElem hjl)
    · exact go ad (fun j u hj => by simp [bv] at hj) rfl (fun x hx => by cases hx)
  | none =>
    have H0 : m = 0 ∧ l = [] := by
      rcases H with H | ⟨_, _, _, ad, e⟩
      · obtain ⟨rfl, rfl⟩ := H.nil rfl
        exact ⟨rfl, List.eq_nil_of_length_eq_zero H.len⟩
      · cases e
    obtain ⟨rfl, rfl⟩ := H0
    refine ⟨some ⟨q, 0, none⟩, 0, W, fun ty => ?_, ⟨rfl, Nat.le_refl _, by decide, (fun e => by cases e), fun ad e => ?_, fun x hx => by cases hx⟩, World.grownBy.refl W _, fun ad e => by cases e; exact .inl rfl⟩
    · simp [Builtin.append_, run_underlying Tryz.underlying33, sizeOf, typeInfo, hi, Builtin.lenOf, Builtin.firstCells, storeCells]
    · cases e
      exact ⟨q, 0, rfl, hlt, fun i x hx => by simp at hx⟩
/-- one more entry at the end. -/
theorem append_last {D B : Nat} {W : World} {v : Value} {l : List Ent} {e : Ent} {a : Option Addr} {n c : Nat} (ho : OwnR D B W v l) (hDB : D ≤ B) (hB : B ≤ W.heap.size) (hE : OkE e) (hd : BK (fun b => B ≤ b ∧ v.ownBlock ≠ some b) W a n c e.data) (hn : l.length + 1 ≤ 100000) :
    ∃ a2 c2 W', (∀ ty, (Builtin.append_ #[36, 36] ty #[v, .slice (some ⟨W.heap.size, 0, none⟩) 1 1]).run Tryz.prog (W.alloc (.cells (entC e a n c).toArray 81)) = .ok (.slice a2 (l.length + 1) c2) W') ∧ ES (fun b => b < D ∨ B ≤ b) W' a2 (l.length + 1) c2 (l ++ [e]) ∧ (∀ w0, Below B w0 W → Below B w0 W') := by
  obtain ⟨rows, hown0, hR⟩ := ho
  obtain ⟨i0, hi, ⟨z, hz0, hzs⟩, hz1, hz2⟩ := info_partsEV
  have hown := World.ownsRow.alloc hown0 (.cells (entC e a n c).toArray 81)
  have hal : Below W.heap.size W (W.alloc (.cells (entC e a n c).toArray 81)) := (Below.refl _ W).alloc (Nat.le_refl _) _
  have hBk := Blk.new W 81 (entC e a n c)
  have hel := entC_length hE.dig a n c
  obtain ⟨v', w', hrun, h2, h3, _, h5⟩ := run_append_own_at (P := Tryz.prog) (w := W.alloc (.cells (entC e a n c).toArray 81)) B 36 0 81 i0 z 35 72 Tryz.underlying36 hi hz0 hz1 hz2 hzs (by omega) v l.length rows.flatten hown ⟨W.heap.size, 0, none⟩ 1 1 (entC e a n c) (by omega) (fun j u hj => by
    rw [Addr.add_lit, Nat.zero_add]
    exact hBk.at_ hj) (entC_one e a n c) (by unfold maxLen; omega) (by omega) (by simp; omega)
  have hbase : ∀ g, v.ownBlock = some g → B ≤ g := fun g e => (World.ownsRow.lt hown0 g e).1
  have hR1 : RowsOf 35 (EV (fun b => (v.ownBlock ≠ some b ∧ b < W.heap.size) ∧ (b < D ∨ B ≤ b)) W) l rows := hR.imp fun _ _ h => h.imp fun b hb k => ⟨⟨fun e => by have := hbase b e; omega, hb⟩, .inl k⟩
  have hK : Keeps (fun b => (v.ownBlock ≠ some b ∧ b < W.heap.size) ∧ (b < D ∨ B ≤ b)) W w' := (Keeps.below hal).trans ⟨h3.size, fun b hb k => h3.block b hb (fun e => k.1.1 e.symm)⟩
  have hR2 : RowsOf 35 (EV (fun b => b < D ∨ B ≤ b) w') l rows := hR1.imp fun _ _ h => (h.keep hK).imp fun _ _ k => k.2
  have hd2 : BK (fun b => b < D ∨ B ≤ b) w' a n c e.data := ((hd.imp (K' := fun b => (v.ownBlock ≠ some b ∧ b < W.heap.size) ∧ (b < D ∨ B ≤ b)) fun b hb k => ⟨⟨k.2, hb⟩, .inr k.1⟩).keep hK).imp fun _ _ k => k.2
  have hR3 := hR2.append (RowsOf.one (e := e) (r := entC e a n c) ⟨hE, a, n, c, rfl, hd2⟩ hel)
  obtain ⟨a2, c2, rfl, hrd, hs2⟩ := Sl.of_owns h2
  refine ⟨a2, c2, w', fun ty => by rw [← hrun]; rfl, ⟨⟨by simp, fun _ ad e => .inr (hs2 ad e).1, _, ?_, hR3⟩, hn⟩, fun w0 hb0 => (hb0.alloc hB _).grown h3 (by simp; omega) (fun r e => hbase r e)⟩
  rw [List.flatten_append, List.flatten_singleton]
  exact hrd
theorem empty_ents (W : World) : (Instr.buildSlice 36 0 #[]).run Tryz.prog W = .ok (.slice (some ⟨W.heap.size, 0, none⟩) 0 0) (W.alloc (.cells #[] 81)) := by kernel_rfl

/-- the boxes of Put and Delete. -/
structure PuW (w : World) (sb : Nat) (s : St) (a : Option Addr) (n c : Nat) (W : World) : Prop where
  bS : Blk W sb 24 (stC s a n c)
  bR : Blk W (sb + 1) 24 [.int .i64 0, .int .i64 0, .slice none 0 0]
  bel : Below w.heap.size w W
theorem PuW.next {w W W2 : World} {sb : Nat} {s : St} {a : Option Addr} {n c : Nat} (h : PuW w sb s a n c W) (hb : Below W.heap.size W W2) : PuW w sb s a n c W2 := ⟨h.bS.below hb h.bS.lt, h.bR.below hb h.bR.lt, h.bel.trans (hb.mono h.bel.size)⟩
theorem PuW.new (w : World) (s : St) (a : Option Addr) (n c : Nat) : PuW w w.heap.size s a n c ((w.alloc (.cells #[.int .i64 s.id, .int .i64 s.priv, .slice a n c] 24)).alloc (.cells #[.int .i64 0, .int .i64 0, .slice none 0 0] 24)) := by
  refine ⟨(Blk.new w _ (stC s a n c)).alloc _, ?_, ((Below.refl _ w).alloc (Nat.le_refl _) _).alloc (by simp) _⟩
  have := Blk.new (w.alloc (.cells (stC s a n c).toArray 24)) 24 [.int .i64 0, .int .i64 0, .slice none 0 0]
  rwa [World.size_alloc] at this
theorem PuW.grown {w W W2 : World} {sb g : Nat} {s : St} {a : Option Addr} {n c : Nat} (h : PuW w sb s a n c W) (hsb : w.heap.size = sb) (hg : W.grownBy W2 (some g)) (hne : sb + 1 < g) : PuW w sb s a n c W2 :=
  ⟨h.bS.grown hg (fun e => by injection e with e; omega), h.bR.grown hg (fun e => by injection e with e; omega), below_grown h.bel hg h.bel.size (by omega)⟩
/-- what a store handed to the result's box leaves. -/
theorem PuW.fin {w W : World} {sb : Nat} {s : St} {a : Option Addr} {n c : Nat} (h : PuW w sb s a n c W) (hsb : w.heap.size = sb) (y0 y1 y2 : Value) :
    Blk (((W.setCell ⟨sb + 1, 0, none⟩ y0).setCell ⟨sb + 1, 1, none⟩ y1).setCell ⟨sb + 1, 2, none⟩ y2) (sb + 1) 24 [y0, y1, y2] ∧ Below w.heap.size w (((W.setCell ⟨sb + 1, 0, none⟩ y0).setCell ⟨sb + 1, 1, none⟩ y1).setCell ⟨sb + 1, 2, none⟩ y2) :=
  ⟨copied_set h.bR _ _ _, ((h.bel.setCell (p := ⟨sb + 1, 0, none⟩) (by show w.heap.size ≤ sb + 1; omega) _).setCell (p := ⟨sb + 1, 1, none⟩) (by show w.heap.size ≤ sb + 1; omega) _).setCell (p := ⟨sb + 1, 2, none⟩) (by show w.heap.size ≤ sb + 1; omega) _⟩
def DeX (s : St) (q : Int) (w : World) (e : Ending) (w' : World) : Prop := ∃ a c, e = .returned (.tuple #[.agg #[.int .i64 s.id, .int .i64 s.priv, .slice a s.logs.length c], .int .i64 q]) ∧ SV (fun _ => True) w' a s.logs.length c s ∧ Below w.heap.size w w'
def PuX (s : St) (no q : Int) (w : World) (e : Ending) (w' : World) : Prop := ∃ a c, e = .returned (.tuple #[.agg #[.int .i64 s.id, .int .i64 s.priv, .slice a s.logs.length c], .int .i64 no, .int .i64 q]) ∧ SV (fun _ => True) w' a s.logs.length c s ∧ Below w.heap.size w w'
/-- an entry of an owned row is deleted. -/
structure DelR (D B : Nat) (W : World) (v : Value) (l : List Ent) (j : Nat) (x : Ent) (g m : Nat) (W9 : World) : Prop where
  eq : v = .slice (some ⟨g, 0, none⟩) l.length m
  hg : B ≤ g
  kind : W.cell? ⟨g, j * 35, none⟩ = some (.int .i64 x.kind)
  dig : W.rangeAt g (j * 35 + 1) (bv x.dig)
  ok : OkE x
  there : W.there g (j * 35) 35
  set : W9 = W.setCells g (j * 35) (entC (Sto.delE x) none 0 0)
  es : ES (fun b => b < D ∨ B ≤ b) W9 (some ⟨g, 0, none⟩) l.length m (Sto.delL l j)
  grown : W.grownBy W9 (some g)
theorem OwnR.del {D B : Nat} {W : World} {v : Value} {l : List Ent} {j : Nat} {x : Ent} (h : OwnR D B W v l) (hDB : D ≤ B) (hx : l[j]? = some x) (hn : l.length ≤ 100000) : ∃ g m W9, DelR D B W v l j x g m W9 := by
  obtain ⟨rows, hown, hO⟩ := h
  have hjl := (List.getElem?_eq_some_iff.1 hx).1
  obtain ⟨g, cap, rest, hv, hg, hgl, hgb, hcap, hcm, hrl⟩ := Sl.owns_row hown (by omega)
  have hBg : Blk W g 81 (rows.flatten ++ rest) := hgb
  have hjr : j < rows.length := by rw [hO.len]; exact hjl
  obtain ⟨r, hr, ⟨ho, ra, rn, rc, er, _⟩, hrs, hfl⟩ := hO.get hx
  have hre : rows[j] = r := (List.getElem?_eq_some_iff.1 hr).2
  have cell : ∀ (q : Nat) u, r[q]? = some u → W.cell? ⟨g, j * 35 + q, none⟩ = some u := fun q u hu => hBg.at_ (by
    have h1 := hfl q u hu
    rw [List.getElem?_append_left (List.getElem?_eq_some_iff.1 h1).1]
    exact h1)
  have hsz : ∀ r ∈ rows, r.length = 35 := hO.size
  have hsplit : rows.flatten ++ rest = (rows.take j).flatten ++ r ++ ((rows.drop (j + 1)).flatten ++ rest) := by
    have h1 : rows = rows.take j ++ r :: rows.drop (j + 1) := by
      conv => lhs; rw [← List.take_append_drop j rows]
      rw [List.drop_eq_getElem_cons hjr, hre]
    conv => lhs; rw [h1]
    simp
  have hpre : (rows.take j).flatten.length = j * 35 := by
    rw [flat_len (fun r hr => hsz r (List.mem_of_mem_take hr)), List.length_take, Nat.min_eq_left (by omega)]
  have hnl : (entC (Sto.delE x) none 0 0).length = 35 := entC_length (e := Sto.delE x) (show (Sto.delE x).dig.length = 32 from ho.dig) _ _ _
  have hB9 := Blk.setCells (entC (Sto.delE x) none 0 0) (w := W) (g := g) (t := 81) (pre := (rows.take j).flatten) (mid := r) (post := (rows.drop (j + 1)).flatten ++ rest) (by rw [← hsplit]; exact hBg) (by rw [hrs, hnl])
  rw [hpre] at hB9
  have hgr : W.grownBy (W.setCells g (j * 35) (entC (Sto.delE x) none 0 0)) (some g) := grown_setCells _ (World.grownBy.refl W _)
  have hset : (rows.set j (entC (Sto.delE x) none 0 0)).flatten ++ rest = (rows.take j).flatten ++ entC (Sto.delE x) none 0 0 ++ ((rows.drop (j + 1)).flatten ++ rest) := by
    rw [List.set_eq_take_append_cons_drop, if_pos hjr]
    simp
  rw [← hset] at hB9
  have hO2 : RowsOf 35 (EV (fun b => b < D ∨ B ≤ b) (W.setCells g (j * 35) (entC (Sto.delE x) none 0 0))) l rows := hO.imp fun _ _ h => (h.keep ⟨hgr.size, fun b hb hk => hgr.block b hb (fun e => by simp only [Option.some.injEq] at e; omega)⟩).imp fun _ _ k => .inl k
  have hO3 := hO2.set j (e := Sto.delE x) (r := entC (Sto.delE x) none 0 0) ⟨⟨ho.dig, ho.lt, ho.lo, ho.hi, Nat.zero_le _⟩, none, 0, 0, rfl, BK.of ⟨rfl, Nat.le_refl _, by omega, fun _ => ⟨rfl, rfl⟩, fun _ e => (by cases e), fun _ h => (by cases h)⟩ (fun _ e => (by cases e))⟩ hnl
  refine ⟨g, cap, _, hv, hg, by have := cell 0 _ (by rw [er]; rfl); rwa [Nat.add_zero] at this, fun q u hu => ?_, ho, fun q hq => ?_, rfl, ?_, hgr⟩
  · have hq := (List.getElem?_eq_some_iff.1 hu).1
    rw [bv_length] at hq
    rw [bv_get (List.getElem?_eq_getElem hq)] at hu
    cases hu
    rw [Nat.add_assoc, Nat.add_comm 1 q]
    exact cell _ _ (by rw [er]; exact entC_dig (List.getElem?_eq_getElem hq) _ _ _)
  · rw [cell q _ (List.getElem?_eq_getElem (by rw [hrs]; exact hq))]
    exact ⟨rfl, hBg.frozen _⟩
  · rw [delL_set hx]
    refine ⟨⟨by simp, fun _ ad e => (by cases e; exact .inr hg), _, ⟨by rw [hO3.flat, List.length_set], hcap, hcm, fun e => (by cases e), fun _ => ⟨g, 0, rfl, hB9.lt, fun q u hq => hB9.at_ ?_⟩⟩, hO3⟩, hn⟩
    rw [Nat.zero_add, List.getElem?_append_left (List.getElem?_eq_some_iff.1 hq).1]
    exact hq
theorem build_gone_range (f : Nat → Nat) (W : World) :
    (Instr.build 81 #[(0, .int .i64 4), (1, .agg (bv ((List.range 32).map f)).toArray), (3, .bool true)]).run Tryz.prog W = .ok (.agg (entC ⟨4, (List.range 32).map f, [], true⟩ none 0 0).toArray) W := run_build W _ _ _ (by kernel_rfl)
theorem build_gone {d : List Nat} (h : d.length = 32) (W : World) :
    (Instr.build 81 #[(0, .int .i64 4), (1, .agg (bv d).toArray), (3, .bool true)]).run Tryz.prog W = .ok (.agg (entC ⟨4, d, [], true⟩ none 0 0).toArray) W := by
  rw [as_range h]
  exact build_gone_range _ W

set_option maxRecDepth 20000 in
set_option maxHeartbeats 4000000 in
theorem r30del_any (a : Option Addr) (n c : Nat) (s : St) (f no : Int) (hf : I64 f) (hno : I64 no) (w : World) (H : SV (fun _ => True) w a n c s) (hn4 : n ≤ 1000) :
    Calls Tryz.prog 21 #[.agg #[.int .i64 s.id, .int .i64 s.priv, .slice a n c], .int .i64 f, .int .i64 no] w (DeX (Sto.delS s f no).1 (Sto.delS s f no).2 w) := by
  obtain ⟨sb, hsb⟩ : ∃ sb, Hid (w.heap.size = sb) := ⟨_, rfl⟩
  have H' := Lib.hid H
  have HK : Hid (SV (fun b => b < sb) w a n c s) := by rw [← hsb.out]; exact H.imp fun b hb _ => hb
  have hop := Lib.hid (fun W (hW : Below w.heap.size w W) => r30open_any (fun _ => True) a n c s f W (H'.out.below hW))
  have hen := Lib.hid (fun W (hW : Below w.heap.size w W) => r30ents_any (fun b => b < sb) a n c s f W (HK.out.below hW))
  clear H
  obtain ⟨n0, n1⟩ := hno
  obtain ⟨X, hX⟩ : ∃ X, X = DeX (Sto.delS s f no).1 (Sto.delS s f no).2 w := ⟨_, rfl⟩
  have hfin : Hid (∀ x q W a' c', Sto.delS s f no = (x, q) → SV (fun _ => True) W a' x.logs.length c' x → Below w.heap.size w W → X (.returned (.tuple #[.agg #[.int .i64 x.id, .int .i64 x.priv, .slice a' x.logs.length c'], .int .i64 q])) W) := fun x q W a' c' h1 h2 h3 => by
    rw [hX, h1]; exact ⟨a', c', rfl, h2, h3⟩
  have herr : Hid (∀ q W, Sto.delS s f no = (Sto.zeroS, q) → Below w.heap.size w W → X (.returned (.tuple #[.agg #[.int .i64 0, .int .i64 0, .slice none 0 0], .int .i64 q])) W) := fun q W h1 h3 => hfin.out Sto.zeroS q W none 0 h1 (SV.zero _ _) h3
  rw [← hX]
  clear hX
  obtain ⟨q, hq⟩ : ∃ q, Hid (Sto.openE s f = q) := ⟨_, rfl⟩
  rw [hq.out] at hop
  go_enter Tryz.func21, Tryz.ntmps21
  go_upto_region 1 with fail
  rw [hsb.out]
  generalize hWq : World.alloc _ _ = W0
  have hP : Hid (PuW w sb s a n c W0) := by rw [← hWq, ← hsb.out]; exact PuW.new w s a n c
  clear hWq
  have s0 := hP.out.bS.at_ (i := 0) rfl
  have s1 := hP.out.bS.at_ (i := 1) rfl
  have s2 := hP.out.bS.at_ (i := 2) rfl
  go_wp2_with fail
  refine (hop.out W0 hP.out.bel).mono ?_
  rintro e w1 ⟨rfl, hb1⟩
  have hP1 := Lib.hid (hP.out.next hb1)
  clear hb1 s0 s1 s2 hop hP
  by_cases hq0 : q = 0
  · subst hq0
    have hlb : Hid (Sto.logsB (-1) s.logs = true) := (Sto.chkS_iff s).1 ((Sto.openE_iff s f).1 hq.out).1 |>.2
    have hva := Lib.hid (fun j x h1 h2 hj hx => Sto.delS_at (s := s) (f := f) (no := no) (j := j) (x := x) hq.out h1 h2 hj hx)
    have hvb := Lib.hid (Sto.delS_bad (s := s) (f := f) (no := no) hq.out)
    clear hq
    generalize Sto.ents s f = l at *
    obtain ⟨B, hB⟩ : ∃ B, Hid (w1.heap.size = B) := ⟨_, rfl⟩
    have hal : Hid (Below w1.heap.size w1 (w1.alloc (.cells #[] 81))) := (Below.refl _ w1).alloc (Nat.le_refl _) _
    obtain ⟨WA, hWA⟩ : ∃ W, Hid (w1.alloc (.cells #[] 81) = W) := ⟨_, rfl⟩
    have hE0 : Hid (Blk WA B 81 []) := by rw [← hWA.out, ← hB.out]; exact Blk.new w1 81 []
    have hPA : Hid (PuW w sb s a n c WA) := by rw [← hWA.out]; exact hP1.out.next hal.out
    have hBl : sb + 1 < B := by rw [← hB.out]; exact hP1.out.bR.lt
    have s0 := hPA.out.bS.at_ (i := 0) rfl
    have s1 := hPA.out.bS.at_ (i := 1) rfl
    have s2 := hPA.out.bS.at_ (i := 2) rfl
    clear hP1 hal
    go_wp2_with (first | (refine wpList_bslice (by rfl) 36 0 _ rfl #[] (by simp) (empty_ents _) ?_; rw [hWA.out, hB.out]))
    clear hWA
    refine (hen.out WA hPA.out.bel).mono ?_
    rintro e w2 ⟨ea, ec, rfl, hES, hb2⟩
    have hP2 := Lib.hid (hPA.out.next hb2)
    have hE2 := hE0.out.below hb2 hE0.out.lt
    have hbd := hES.bd
    obtain ⟨v1, W3, hr3, ho3, hg3, _⟩ := append_ents (D := sb) (B := B) (by omega) (Nat.le_refl B) (by have := hE2.lt; omega) hE2 hES
    have hP3 := Lib.hid (hP2.out.grown hsb.out hg3 hBl)
    obtain ⟨a3, c3, hv3, _, _⟩ : ∃ a c, v1 = .slice a l.length c ∧ True ∧ True := by
      obtain ⟨rows, ho, _⟩ := ho3
      obtain ⟨a', c', e, _, _⟩ := Sl.of_owns ho
      exact ⟨a', c', e, trivial, trivial⟩
    subst hv3
    obtain ⟨m, hm⟩ : ∃ m, Hid (l.length = m) := ⟨_, rfl⟩
    rw [hm.out] at hr3 hva hvb hbd ⊢
    have hr3' := Lib.hid hr3
    have ho3' := Lib.hid ho3
    clear hr3 ho3 hg3 hE2 hE0 hES hb2 hPA hP2 s0 s1 s2 hen
    go_upto_region 5 with (first | (at_builtin; refine Lib.wpList_append_run _ rfl _ _ _ _ rfl _ _ rfl rfl _ _ (hr3'.out _) ?_))
    clear hr3'
    by_cases h1 : 1 ≤ no
    · have q1 : decide (no < 1) = false := decide_eq_false (by omega)
      by_cases h2 : no ≤ m
      · have q2 : decide ((m : Int) < no) = false := decide_eq_false (by omega)
        obtain ⟨j, hj⟩ : ∃ j : Nat, no - 1 = (j : Int) := ⟨(no - 1).toNat, by omega⟩
        have hjm : j < m := by omega
        have hjl : j < l.length := by rw [hm.out]; exact hjm
        obtain ⟨x, hx⟩ : ∃ x, l[j]? = some x := ⟨_, List.getElem?_eq_getElem hjl⟩
        have hjw : IntKind.i64.wrap (j : Int) = (j : Int) := IntWalk.i64_in _ (by omega)
        have j0 : (0 : Int) ≤ (j : Int) := by omega
        have j1 : (j : Int) < (m : Int) := by omega
        obtain ⟨g, cp, W9, hD⟩ := ho3'.out.del (by omega) hx (by rw [hm.out]; exact hbd)
        have hv2 := Lib.hid (hva.out j x h1 h2 hj hx)
        have e3 := hD.eq
        simp only [Value.slice.injEq] at e3
        obtain ⟨rfl, _, rfl⟩ := e3
        have k0 := hD.kind
        clear hva hvb hx ho3' hjl
        by_cases hk4 : x.kind = 4
        · have q3 : (x.kind != 4) = false := by simp [hk4]
          have hrl : (entC (Sto.delE x) none 0 0).length = 35 := entC_length (e := Sto.delE x) (show (Sto.delE x).dig.length = 32 from hD.ok.dig) _ _ _
          have hdx : Sto.delE x = ⟨4, x.dig, [], true⟩ := by unfold Sto.delE; rw [hk4]
          have hbd9 := Lib.hid (fun W => build_gone hD.ok.dig W)
          have hdi : Hid ((Tryz.prog.info? 43).map (·.size) = some (bv x.dig).length) := by show _ = _; rw [bv_length, hD.ok.dig]; exact size35
          have hrg := Lib.hid hD.dig
          obtain ⟨RR, hRR⟩ : ∃ R, Hid (entC (Sto.delE x) none 0 0 = R) := ⟨_, rfl⟩
          rw [← hdx, hRR.out] at hbd9
          have hth : Hid (W3.there g (j * 35) RR.toArray.size) := by show World.there _ _ _ _; rw [List.size_toArray, ← hRR.out, hrl]; exact hD.there
          have hin : Hid ((Tryz.prog.info? 81).map (·.size) = some RR.toArray.size) := by show _ = _; rw [List.size_toArray, ← hRR.out, hrl]; exact sizeE
          have hon : Hid (∀ u ∈ RR, u.oneCell' = true) := by rw [← hRR.out]; exact entC_one _ _ _ _
          have hst : Hid (W9 = W3.setCells g (j * 35) RR) := by rw [← hRR.out]; exact hD.set
          have hP9 := Lib.hid (hP3.out.grown hsb.out hD.grown (by have := hD.hg; omega))
          have hRES := Sto.withGo_ins (f := f) (l := Sto.delL l j) hlb.out
          obtain ⟨RES, hRE⟩ : ∃ R, Hid (Sto.insL f (Sto.delL l j) s.logs = R) := ⟨_, rfl⟩
          rw [hRE.out] at hRES
          have hwi := Lib.hid (r30with_any (fun b => b < sb ∨ B ≤ b) a n c s f hf (some ⟨g, 0, none⟩) _ c3 (Sto.delL l j) W9 ((HK.out.imp fun _ _ k => .inl k).below hP9.out.bel) hD.es hn4 RES hRES)
          rw [hm.out] at hwi
          have hvv : Hid (Sto.delS s f no = (⟨s.id, s.priv, RES⟩, 0)) := by show _ = _; rw [hv2.out, if_pos hk4]; unfold Sto.replS; rw [hRE.out]
          obtain ⟨DD, hDD⟩ : ∃ R, Hid (bv x.dig = R) := ⟨_, rfl⟩
          rw [hDD.out] at hrg hdi hbd9
          have s0 := hP9.out.bS.at_ (i := 0) rfl
          have s1 := hP9.out.bS.at_ (i := 1) rfl
          have s2 := hP9.out.bS.at_ (i := 2) rfl
          clear hD hv2 hrl hdx hRES hRE hk4 hDD hRR hP3
          go_wp2_with (first
            | (refine wpList_load_mid (by rfl) 43 (.tmp 46) (by rfl) g (j * 35 + 1) (by rfl) DD _ hrg.out Tryz.underlying43 (by rfl) hdi.out ?_)
            | (refine wpList_build_run (by rfl) 81 _ rfl #[(0, .int .i64 4), (1, .agg DD.toArray), (3, .bool true)] (by simp only [List.map_toArray, List.map_cons, List.map_nil]; rfl) (hbd9.out _) ?_)
            | (refine wpList_store_mid (by rfl) 81 (.tmp 49) (.tmp 48) (by rfl) g (j * 35) RR.toArray (by rfl) (by rfl) hth.out hin.out (by simpa using hon.out) ?_
               generalize hWq : World.setCells _ _ _ _ = Wa
               obtain rfl : W9 = Wa := by rw [← hWq]; exact hst.out
               clear hWq))
          refine hwi.out.mono ?_
          have hlt9 : Hid (sb + 1 < W9.heap.size) := hP9.out.bR.lt
          rintro e w5 ⟨a5, c5, rfl, hS5, hb5⟩
          have hP5 := Lib.hid (hP9.out.next hb5)
          obtain ⟨rl, hrl⟩ : ∃ r, Hid (RES.length = r) := ⟨_, rfl⟩
          have hfn := Lib.hid (hP5.out.fin hsb.out (.int .i64 s.id) (.int .i64 s.priv) (.slice a5 rl c5))
          have hend := Lib.hid (hfin.out ⟨s.id, s.priv, RES⟩ 0 _ a5 c5 hvv.out ((hS5.imp (K' := fun b => True ∧ b ≠ sb + 1) fun b _ h => ⟨trivial, by have := hlt9.out; omega⟩).keep (copied_keeps _ _ _ _ _) |>.imp fun _ _ _ => trivial) hfn.out.2)
          simp only [] at hend
          rw [hrl.out] at hend
          have r0 := hP5.out.bR.at_ (i := 0) rfl
          have r1 := hP5.out.bR.at_ (i := 1) rfl
          have r2 := hP5.out.bR.at_ (i := 2) rfl
          have f0 := hP5.out.bR.frozen 0
          have f1 := hP5.out.bR.frozen 1
          have f2 := hP5.out.bR.frozen 2
          simp only []
          rw [hrl.out]
          clear hwi hth hin hon hst hbd9 hrg hdi s0 s1 s2 hS5 hb5 hP5 hP9 hfin herr k0 q1 q2 q3
          go_wp2_with fail
          exact ret_cell_tmpV (p := 6) (u := 7) rfl hfn.out.1 Tryz.underlying24 rfl size26 rfl rfl rfl hend.out
        · have q3 : (x.kind != 4) = true := by simp [hk4]
          have hfn := Lib.hid (hP3.out.fin hsb.out (.int .i64 0) (.int .i64 0) (.slice none 0 0))
          have hend := Lib.hid (herr.out 300 _ (by rw [hv2.out, if_neg hk4]) hfn.out.2)
          have r0 := hP3.out.bR.at_ (i := 0) rfl
          have r1 := hP3.out.bR.at_ (i := 1) rfl
          have r2 := hP3.out.bR.at_ (i := 2) rfl
          have f0 := hP3.out.bR.frozen 0
          have f1 := hP3.out.bR.frozen 1
          have f2 := hP3.out.bR.frozen 2
          clear hfin herr hv2 hD hP3 hk4
          go_wp2_with fail
          exact ret_cell_tmpV (p := 6) (u := 7) rfl hfn.out.1 Tryz.underlying24 rfl size26 rfl rfl rfl hend.out
      · have q2 : decide ((m : Int) < no) = true := decide_eq_true (by omega)
        have hfn := Lib.hid (hP3.out.fin hsb.out (.int .i64 0) (.int .i64 0) (.slice none 0 0))
        have hend := Lib.hid (herr.out 1 _ (hvb.out (by omega)) hfn.out.2)
        have r0 := hP3.out.bR.at_ (i := 0) rfl
        have r1 := hP3.out.bR.at_ (i := 1) rfl
        have r2 := hP3.out.bR.at_ (i := 2) rfl
        have f0 := hP3.out.bR.frozen 0
        have f1 := hP3.out.bR.frozen 1
        have f2 := hP3.out.bR.frozen 2
        clear hfin herr hva hP3 ho3'
        go_wp2_with fail
        exact ret_cell_tmpV (p := 6) (u := 7) rfl hfn.out.1 Tryz.underlying24 rfl size26 rfl rfl rfl hend.out
    · have q1 : decide (no < 1) = true := decide_eq_true (by omega)
      have hfn := Lib.hid (hP3.out.fin hsb.out (.int .i64 0) (.int .i64 0) (.slice none 0 0))
      have hend := Lib.hid (herr.out 1 _ (hvb.out (fun h => h1 h.1)) hfn.out.2)
      have r0 := hP3.out.bR.at_ (i := 0) rfl
      have r1 := hP3.out.bR.at_ (i := 1) rfl
      have r2 := hP3.out.bR.at_ (i := 2) rfl
      have f0 := hP3.out.bR.frozen 0
      have f1 := hP3.out.bR.frozen 1
      have f2 := hP3.out.bR.frozen 2
      clear hfin herr hva hP3 ho3'
      go_wp2_with fail
      exact ret_cell_tmpV (p := 6) (u := 7) rfl hfn.out.1 Tryz.underlying24 rfl size26 rfl rfl rfl hend.out
  · have q0 : (q != 0) = true := by simpa using hq0
    have hfn := Lib.hid (hP1.out.fin hsb.out (.int .i64 0) (.int .i64 0) (.slice none 0 0))
    have hend := Lib.hid (herr.out q _ (by unfold Sto.delS; rw [if_neg (by rw [hq.out]; exact hq0), hq.out]) hfn.out.2)
    have r0 := hP1.out.bR.at_ (i := 0) rfl
    have r1 := hP1.out.bR.at_ (i := 1) rfl
    have r2 := hP1.out.bR.at_ (i := 2) rfl
    have f0 := hP1.out.bR.frozen 0
    have f1 := hP1.out.bR.frozen 1
    have f2 := hP1.out.bR.frozen 2
    clear hfin herr hen hP1
    go_wp2_with fail
    exact ret_cell_tmpV (p := 6) (u := 7) rfl hfn.out.1 Tryz.underlying24 rfl size26 rfl rfl rfl hend.out

end Go.Proofs.YtlpgjdlkjahdgaaGreatDoor
