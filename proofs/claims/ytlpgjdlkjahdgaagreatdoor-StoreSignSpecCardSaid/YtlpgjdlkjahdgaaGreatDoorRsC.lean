/- the reference 30: Entries, check, with -/
import Derived.Test.YtlpgjdlkjahdgaaGreatDoorRsB
import Derived.Maps.AppendAt
import Derived.StillTailTactics
namespace Go
variable {P : Program}
theorem wpList_bslice {ops : Array Oper} {rest : List Oper} {op : Oper} {a : Act} {w w' : World} {Q : Exit → Act → World → Prop} {v : Value} (hgd : op.guard = none) (t : TypeId) (k : Nat) (parts : Array (Nat × Operand)) (ho : op.op = .buildSlice t k parts) (ps : Array (Nat × Value)) (hp : (parts.map fun (i, x) => (i, a.eval x)) = ps) (hr : (Instr.buildSlice t k ps).run P w = .ok v w')
    (h : wpList P ops Q rest (a.put op.dst v) w') : wpList P ops Q (op :: rest) a w :=
  wpList_plain hgd fun _ hK => by
    unfold Oper.wp execOp
    simp only [ho, hp, Sem.run_bind, hr, Result.andThen_ok, Sem.run_pure]
    exact hK _ _ h
theorem wp_bslice {o : Oper} {a : Act} {w w' : World} {K : Act → World → Prop} {Q : Exit → Act → World → Prop} {v : Value} (t : TypeId) (n : Nat) (parts : Array (Nat × Operand)) (h : o.op = .buildSlice t n parts) (ps : Array (Nat × Value)) (hp : (parts.map fun (i, x) => (i, a.eval x)) = ps) (hr : (Instr.buildSlice t n ps).run P w = .ok v w') (hK : K (a.put o.dst v) w') : o.wp P a w K Q := by
  unfold Oper.wp execOp
  simp only [h, hp, Sem.run_bind, hr, Result.andThen_ok, Sem.run_pure]
  exact hK
end Go
namespace Go.Proofs.YtlpgjdlkjahdgaaGreatDoor
open Go.RowKit Go.Mem
open Go.Sto (Ent Lg St)

def EntsPost (K : Nat → Prop) (l : List Ent) (w : World) (e : Ending) (w' : World) : Prop := ∃ a c, e = .returned (.slice a l.length c) ∧ ES K w' a l.length c l ∧ Below w.heap.size w w'

set_option maxRecDepth 20000 in
set_option maxHeartbeats 1000000 in
theorem r30ents_any (K : Nat → Prop) (a : Option Addr) (n c : Nat) (s : St) (f : Int) (w : World) (H : SV K w a n c s) :
    Calls Tryz.prog 63 #[.agg #[.int .i64 s.id, .int .i64 s.priv, .slice a n c], .int .i64 f] w (EntsPost K (Sto.ents s f) w) := by
  have hlen := H.ls.rs.len
  have hbd := H.ls.bd
  have n63 : (n : Int) ≤ 100000 := by omega
  obtain ⟨sb, hsb⟩ : ∃ sb, Hid (w.heap.size = sb) := ⟨_, rfl⟩
  obtain ⟨W0, hW0⟩ : ∃ W, Hid (w.alloc (.cells #[.int .i64 s.id, .int .i64 s.priv, .slice a n c] 24) = W) := ⟨_, rfl⟩
  have hB : Hid (Blk W0 sb 24 (stC s a n c)) := by rw [← hW0.out, ← hsb.out]; exact Blk.new w _ (stC s a n c)
  have hb : Hid (Below w.heap.size w W0) := by rw [← hW0.out]; exact (Below.refl _ w).alloc (Nat.le_refl _) _
  have H' := Lib.hid (H.below hb.out)
  clear H
  obtain ⟨X, hX⟩ : ∃ X, X = EntsPost K (Sto.ents s f) w := ⟨_, rfl⟩
  have hfin : Hid (∀ l ea en ec, Sto.entsL f s.logs = l → ES K W0 ea en ec l → X (.returned (.slice ea en ec)) W0) := fun l ea en ec h1 h2 => by
    have hen := h2.rs.len
    subst hen
    rw [hX]; unfold Sto.ents; rw [h1]; exact ⟨ea, ec, rfl, h2, hb.out⟩
  rw [← hX]
  clear hX
  have s2 : W0.cell? ⟨sb, 2, none⟩ = some (.slice a n c) := hB.out.at_ (i := 2) rfl
  clear hB hb
  go_enter Tryz.func63, Tryz.ntmps63
  go_upto_region 1 with (first | (rw [hW0.out, hsb.out]) | (rw [hW0.out]))
  clear hW0
  go_wp2_with fail
  go_loop [5] (fun i => ∃ k : Nat, k ≤ n ∧ i = .int .i64 (k : Int) ∧ Hid (Sto.entsL f s.logs = Sto.entsL f (s.logs.drop k))) (fun i => n - (intOf i).toNat)
  case atStart => exact ⟨0, Nat.zero_le _, rfl, rfl⟩
  case round =>
    obtain ⟨k, hk, rfl, hl⟩ := hrel
    by_cases hlt : k < n
    · have hkl : k < s.logs.length := by omega
      obtain ⟨x, hx⟩ : ∃ x, s.logs[k]? = some x := ⟨_, List.getElem?_eq_getElem hkl⟩
      have hl' := hl.out
      rw [List.drop_eq_getElem_cons hkl, (List.getElem?_eq_some_iff.1 hx).2, Sto.entsL] at hl'
      obtain ⟨b, off, ea, en, ec, rfl, hbl, _, hfo, hes, c0, c1⟩ := H'.out.ls.cells hx
      have k0 : (0 : Int) ≤ (k : Int) := by omega
      have k1 : (k : Int) < (n : Int) := by omega
      by_cases hxf : x.folder = f
      · rw [if_pos hxf] at hl'
        have hend := Lib.hid (hfin.out _ _ _ _ hl' hes)
        have q1 : (x.folder == f) = true := by simpa using hxf
        clear hl' hl hxf hx hfin hes
        go_wp2_with fail
        exact hend.out
      · rw [if_neg hxf] at hl'
        have hl2 := Lib.hid hl'
        have q1 : (x.folder == f) = false := by simpa using hxf
        clear hl' hl hxf hx hes
        go_wp2_with fail
        go_round
        case rel => exact ⟨k + 1, by omega, by go_num, hl2⟩
        case measure => simp [intOf]; omega
    · obtain rfl : k = n := by omega
      have hl' := hl.out
      rw [List.drop_eq_nil_of_le (by omega), Sto.entsL] at hl'
      have hend := Lib.hid (hfin.out _ _ _ _ hl' (ES.nil0 K W0))
      clear hl' hl hfin
      go_wp2_with fail
      exact hend.out

set_option maxRecDepth 20000 in
set_option maxHeartbeats 1000000 in
theorem r30open_any (K : Nat → Prop) (a : Option Addr) (n c : Nat) (s : St) (f : Int) (w : World) (H : SV K w a n c s) :
    Calls Tryz.prog 61 #[.agg #[.int .i64 s.id, .int .i64 s.priv, .slice a n c], .int .i64 f] w (RetI (Sto.openE s f) w) := by
  obtain ⟨sb, hsb⟩ : ∃ sb, Hid (w.heap.size = sb) := ⟨_, rfl⟩
  obtain ⟨W0, hW0⟩ : ∃ W, Hid (w.alloc (.cells #[.int .i64 s.id, .int .i64 s.priv, .slice a n c] 24) = W) := ⟨_, rfl⟩
  have hB : Hid (Blk W0 sb 24 (stC s a n c)) := by rw [← hW0.out, ← hsb.out]; exact Blk.new w _ (stC s a n c)
  have hb : Hid (Below w.heap.size w W0) := by rw [← hW0.out]; exact (Below.refl _ w).alloc (Nat.le_refl _) _
  have hck := Lib.hid (r30check_any K a n c s W0 (H.below hb.out))
  clear H
  obtain ⟨X, hX⟩ : ∃ X, X = RetI (Sto.openE s f) w := ⟨_, rfl⟩
  have hfin : Hid (∀ q W, Sto.openE s f = q → Below W0.heap.size W0 W → X (.returned (.int .i64 q)) W) := fun q W h1 h2 => by rw [hX, h1]; exact ⟨rfl, hb.out.trans (h2.mono hb.out.size)⟩
  rw [← hX]
  clear hX
  have s0 : W0.cell? ⟨sb, 0, none⟩ = some (.int .i64 s.id) := hB.out.at_ (i := 0) rfl
  have s1 : W0.cell? ⟨sb, 1, none⟩ = some (.int .i64 s.priv) := hB.out.at_ (i := 1) rfl
  have s2 : W0.cell? ⟨sb, 2, none⟩ = some (.slice a n c) := hB.out.at_ (i := 2) rfl
  clear hB hb
  obtain ⟨q, hq⟩ : ∃ q, Hid (Sto.chkS s = q) := ⟨_, rfl⟩
  rw [hq.out] at hck
  have hq3 : q = 0 ∨ q = 300 := by rw [← hq.out]; unfold Sto.chkS; split <;> simp
  go_enter Tryz.func61, Tryz.ntmps61
  go_upto_region 1 with fail
  rw [hsb.out]
  generalize hWq : w.alloc _ = Wq
  obtain rfl : W0 = Wq := by rw [← hWq]; exact hW0.out.symm
  clear hWq hW0
  go_wp2_with fail
  refine hck.out.mono ?_
  rintro e w1 ⟨rfl, hb1⟩
  rcases hq3 with rfl | rfl
  · by_cases h0 : f < 0
    · have hend := Lib.hid (hfin.out 1 w1 (by unfold Sto.openE Sto.folderB; rw [if_pos hq.out, decide_eq_false (by omega)]; rfl) hb1)
      have q0 : decide (f < 0) = true := decide_eq_true h0
      clear hfin hb1 hck
      go_wp2_with fail
      exact hend.out
    · have q0 : decide (f < 0) = false := decide_eq_false h0
      by_cases h1 : 16 ≤ f
      · have hend := Lib.hid (hfin.out 1 w1 (by unfold Sto.openE Sto.folderB; rw [if_pos hq.out, decide_eq_false (by omega)]; rfl) hb1)
        have q1 : decide (16 ≤ f) = true := decide_eq_true h1
        clear hfin hb1 hck
        go_wp2_with fail
        exact hend.out
      · have hend := Lib.hid (hfin.out 0 w1 (by unfold Sto.openE Sto.folderB; rw [if_pos hq.out, decide_eq_true (by omega)]; rfl) hb1)
        have q1 : decide (16 ≤ f) = false := decide_eq_false h1
        clear hfin hb1 hck
        go_wp2_with fail
        exact hend.out
  · have hend := Lib.hid (hfin.out 300 w1 (by unfold Sto.openE; rw [if_neg (by rw [hq.out]; decide)]) hb1)
    clear hfin hb1 hck
    go_wp2_with fail
    exact hend.out

/-- an owned row of logs; what they point to is as it was in w0. -/
def OwnLg (K : Nat → Prop) (w0 : World) (B : Nat) (W : World) (v : Value) (l : List Lg) : Prop := ∃ rows, W.ownsRow B 84 2 v l.length rows.flatten ∧ RowsOf 2 (LV K w0) l rows
theorem append_lg {K : Nat → Prop} {w0 W : World} {B : Nat} {v : Value} {l : List Lg} {x : Lg} {r : List Value} (ho : OwnLg K w0 B W v l) (hB : B ≤ W.heap.size) (hr : LV K w0 x r) (hn : l.length ≤ 100000) :
    ∃ v' W', (∀ ty, (Builtin.append_ #[22, 22] ty #[v, .slice (some ⟨W.heap.size, 0, none⟩) 1 1]).run Tryz.prog (W.alloc (.cells r.toArray 84)) = .ok v' W') ∧ OwnLg K w0 B W' v' (l ++ [x]) ∧ W.grownBy W' v.ownBlock ∧ (∀ g, v.ownBlock = some g → B ≤ g) := by
  obtain ⟨rows, hown0, hR⟩ := ho
  obtain ⟨i0, hi, hz0, hz1, hz2⟩ := info_parts infoL
  have hown := World.ownsRow.alloc hown0 (.cells r.toArray 84)
  have hBk := Blk.new W 84 r
  have hrl : r.length = 2 := by obtain ⟨_, a, n, c, rfl, _⟩ := hr; rfl
  obtain ⟨v', w', hrun, h2, h3, _, _⟩ := run_append_own_at (P := Tryz.prog) (w := W.alloc (.cells r.toArray 84)) B 22 0 84 i0 _ 2 32 Tryz.underlying22 hi hz0 hz1 hz2 rfl (by omega) v l.length rows.flatten hown ⟨W.heap.size, 0, none⟩ 1 1 r (by omega) (fun j u hj => by
    rw [Addr.add_lit, Nat.zero_add]
    exact hBk.at_ hj) (hr.one) (by unfold maxLen; omega) (by omega) (by simp; omega)
  refine ⟨v', w', fun ty => by rw [← hrun]; rfl, ⟨rows ++ [r], ?_, hR.append (RowsOf.one hr hrl)⟩, ?_, fun g e => (World.ownsRow.lt hown0 g e).1⟩
  · rw [List.flatten_append, List.length_append]
    simpa using h2
  · have hal : W.grownBy (W.alloc (.cells r.toArray 84)) v.ownBlock := grown_of_below ((Below.refl _ W).alloc (Nat.le_refl _) _) _
    exact hal.trans h3

/-- the boxes of with. -/
structure WiW (K : Nat → Prop) (w : World) (sb : Nat) (s : St) (a : Option Addr) (n c : Nat) (v : Value) (L : List Lg) (W : World) : Prop where
  bS : Blk W sb 24 (stC s a n c)
  bR : Blk W (sb + 1) 24 [.int .i64 0, .int .i64 0, .slice none 0 0]
  bX : Blk W (sb + 1 + 1) 24 [.int .i64 s.id, .int .i64 s.priv, v]
  own : OwnLg K w (sb + 1 + 1 + 1) W v L
  bel : Below w.heap.size w W
theorem OwnLg.below {K : Nat → Prop} {w0 W W' : World} {B : Nat} {v : Value} {l : List Lg} (h : OwnLg K w0 B W v l) (hb : Below W.heap.size W W') : OwnLg K w0 B W' v l := by
  obtain ⟨rows, ho, hR⟩ := h
  exact ⟨rows, Sl.owns_below ho hb (Nat.le_refl _), hR⟩
theorem WiW.next {K : Nat → Prop} {w W W2 : World} {sb : Nat} {s : St} {a : Option Addr} {n c : Nat} {v : Value} {L : List Lg} (h : WiW K w sb s a n c v L W) (hb : Below W.heap.size W W2) : WiW K w sb s a n c v L W2 :=
  ⟨h.bS.below hb h.bS.lt, h.bR.below hb h.bR.lt, h.bX.below hb h.bX.lt, h.own.below hb, h.bel.trans (hb.mono h.bel.size)⟩
/-- one more log: the appended row, and the world behind the store. -/
structure WiA (K : Nat → Prop) (w : World) (sb : Nat) (s : St) (a : Option Addr) (n c : Nat) (v : Value) (L : List Lg) (r : List Value) (x : Lg) (W : World) (v' : Value) (W' : World) : Prop where
  run : ∀ ty, (Builtin.append_ #[22, 22] ty #[v, .slice (some ⟨W.heap.size, 0, none⟩) 1 1]).run Tryz.prog (W.alloc (.cells r.toArray 84)) = .ok v' W'
  cell : W'.cell? ⟨sb + 1 + 1, 2, none⟩ = some v
  froz : W'.frozen? ⟨sb + 1 + 1, 2, none⟩ = false
  mid : Below w.heap.size w W' ∧ Blk W' sb 24 (stC s a n c)
  done : WiW K w sb s a n c v' (L ++ [x]) (W'.setCell ⟨sb + 1 + 1, 2, none⟩ v')
theorem WiW.app {K : Nat → Prop} {w W : World} {sb : Nat} {s : St} {a : Option Addr} {n c : Nat} {v : Value} {L : List Lg} (h : WiW K w sb s a n c v L W) (hsb : w.heap.size = sb) {x : Lg} {r : List Value} (hr : LV K w x r) (hn : L.length ≤ 100000) :
    ∃ va vn vc W', WiA K w sb s a n c v L r x W (.slice va vn vc) W' := by
  have hlt := h.bX.lt
  obtain ⟨v', W', hrun, ho, hg, hB⟩ := append_lg h.own (by omega) hr hn
  have ne : ∀ b, b < sb + 1 + 1 + 1 → some b ≠ v.ownBlock := fun b hb e => by have := hB b e.symm; omega
  have hX := h.bX.grown hg (ne _ (by omega))
  have hb' : Below w.heap.size w W' := h.bel.grown hg h.bel.size (fun g e => by have := hB g e; omega)
  obtain ⟨va, vc, hv, _, _⟩ : ∃ a c, v' = .slice a (L ++ [x]).length c ∧ True ∧ True := by
    obtain ⟨rows, ho, hR⟩ := ho
    obtain ⟨a', c', e, _, _⟩ := Sl.of_owns ho
    exact ⟨a', c', e, trivial, trivial⟩
  rw [hv] at hrun ho
  refine ⟨va, _, vc, W', hrun, hX.at_ (i := 2) rfl, hX.frozen 2, ⟨hb', h.bS.grown hg (ne _ (by omega))⟩, ⟨?_, ?_, ?_, ?_, hb'.setCell (p := ⟨sb + 1 + 1, 2, none⟩) (by show w.heap.size ≤ sb + 1 + 1; omega) _⟩⟩
  · exact (h.bS.grown hg (ne _ (by omega))).far (by show sb ≠ sb + 1 + 1; omega) _
  · exact (h.bR.grown hg (ne _ (by omega))).far (by show sb + 1 ≠ sb + 1 + 1; omega) _
  · exact hX.set 2 _
  · obtain ⟨rows, ho, hR⟩ := ho
    refine ⟨rows, ho.kept (grown_set (World.grownBy.refl W' _) (.inl rfl) _) ?_, hR⟩
    rcases ho.2 with ⟨e, _⟩ | ⟨g, cap, cur, e, hg, _⟩
    · rw [e]; simp [Value.ownBlock]
    · rw [e]; simp only [Value.ownBlock, ne_eq, Option.some.injEq]; omega
theorem WiW.ls {K : Nat → Prop} {w W : World} {sb : Nat} {s : St} {a : Option Addr} {n c : Nat} {v : Value} {L : List Lg} (h : WiW K w sb s a n c v L W) (hsb : w.heap.size = sb) (hn : L.length ≤ 100000) : ∃ a' c', v = .slice a' L.length c' ∧ LS (fun b => (K b ∨ w.heap.size ≤ b) ∧ b ≠ sb + 1) W a' L.length c' L := by
  obtain ⟨rows, ho, hR⟩ := h.own
  obtain ⟨a', c', rfl, hr, h3⟩ := Sl.of_owns ho
  exact ⟨a', c', rfl, ⟨rfl, fun _ ad e => ⟨.inr (by have := (h3 ad e).1; omega), by have := (h3 ad e).1; omega⟩, rows, hr, hR.imp fun _ _ h2 => (h2.imp (fun b hb k => ⟨.inl k, by omega⟩)).keep (Keeps.below h.bel)⟩, hn⟩
def WiPost (K : Nat → Prop) (s : St) (w : World) (e : Ending) (w' : World) : Prop := ∃ a c, e = .returned (.agg #[.int .i64 s.id, .int .i64 s.priv, .slice a s.logs.length c]) ∧ SV (fun b => K b ∨ w.heap.size ≤ b) w' a s.logs.length c s ∧ Below w.heap.size w w'
theorem log_slice1 (f : Int) (a : Option Addr) (n c : Nat) (W : World) : (Instr.buildSlice 22 1 #[(0, .agg #[.int .i64 f, .slice a n c])]).run Tryz.prog W = .ok (.slice (some ⟨W.heap.size, 0, none⟩) 1 1) (W.alloc (.cells (logC f a n c).toArray 84)) := by kernel_rfl

set_option maxRecDepth 20000 in
set_option maxHeartbeats 8000000 in
theorem r30with_any (K : Nat → Prop) (a : Option Addr) (n c : Nat) (s : St) (f : Int) (hf : I64 f) (ea : Option Addr) (en ec : Nat) (es : List Ent) (w : World) (H : SV K w a n c s) (HE : ES K w ea en ec es) (hn4 : n ≤ 1000) (RES : List Lg) (hRES0 : Sto.withGo f es false s.logs = RES) :
    Calls Tryz.prog 64 #[.agg #[.int .i64 s.id, .int .i64 s.priv, .slice a n c], .int .i64 f, .slice ea en ec] w (WiPost K ⟨s.id, s.priv, RES⟩ w) := by
  have hlen := H.ls.rs.len
  have n63 : (n : Int) ≤ 1000 := by omega
  have hRES := Lib.hid hRES0
  obtain ⟨sb, hsb⟩ : ∃ sb, Hid (w.heap.size = sb) := ⟨_, rfl⟩
  have hlv : Hid (LV K w ⟨f, es⟩ (logC f ea en ec)) := ⟨hf, ea, en, ec, rfl, HE⟩
  have hid := Lib.hid H.id; have hpr := Lib.hid H.priv; have hlsr := Lib.hid H.ls
  clear H HE hRES0 hf
  obtain ⟨X, hX⟩ : ∃ X, X = WiPost K ⟨s.id, s.priv, RES⟩ w := ⟨_, rfl⟩
  have hfin : Hid (∀ a' c' W, LS (fun b => K b ∨ w.heap.size ≤ b) W a' RES.length c' RES → Below w.heap.size w W → X (.returned (.agg #[.int .i64 s.id, .int .i64 s.priv, .slice a' RES.length c'])) W) := fun a' c' W h1 h2 => by
    rw [hX]; exact ⟨a', c', rfl, ⟨h1, hid.out, hpr.out⟩, h2⟩
  rw [← hX]
  clear hX hid hpr
  go_enter Tryz.func64, Tryz.ntmps64
  go_upto_region 1 with fail
  rw [hsb.out]
  generalize hW : World.alloc _ _ = W
  have hS0 : Hid (Blk W sb 24 (stC s a n c)) := by
    rw [← hW, ← hsb.out]
    exact (Blk.new w _ (stC s a n c)).alloc _
  have hR0 : Hid (Blk W (sb + 1) 24 [.int .i64 0, .int .i64 0, .slice none 0 0]) := by
    have := Blk.new (w.alloc (.cells (stC s a n c).toArray 24)) 24 [.int .i64 0, .int .i64 0, .slice none 0 0]
    rw [World.size_alloc, hsb.out] at this
    rw [← hW]; exact this
  have hb0 : Hid (Below w.heap.size w W) := by rw [← hW]; exact ((Below.refl _ w).alloc (Nat.le_refl _) _).alloc (by simp) _
  have hws : W.heap.size = sb + 1 + 1 := by rw [← hW, World.size_alloc, World.size_alloc, hsb.out]
  clear hW
  have s0 := hS0.out.at_ (i := 0) rfl
  have s1 := hS0.out.at_ (i := 1) rfl
  have s2 := hS0.out.at_ (i := 2) rfl
  go_upto_region 2 with fail
  generalize hW1 : World.alloc _ _ = W1
  have hI0 : Hid (WiW K w sb s a n c (.slice none 0 0) [] W1) := by
    rw [← hW1]
    refine ⟨hS0.out.alloc _, hR0.out.alloc _, ?_, ⟨[], World.ownsRow_nil _ _ _ _, RowsOf.nil⟩, hb0.out.alloc hb0.out.size _⟩
    have := Blk.new W 24 [.int .i64 s.id, .int .i64 s.priv, .slice none 0 0]
    rwa [hws] at this
  clear hW1 hS0 hR0 hb0 hws s0 s1 s2
  go_wp2_with fail
  go_loopw [8, 9] (fun dn i wr => ∃ (k : Nat) (d : Bool) (L : List Lg) (va : Option Addr) (vn vc : Nat), k ≤ n ∧ i = .int .i64 (k : Int) ∧ dn = .bool d ∧ L.length ≤ 2 * k ∧ Hid (L ++ Sto.withGo f es d (s.logs.drop k) = RES) ∧ Hid (WiW K w sb s a n c (.slice va vn vc) L wr)) (fun _ i _ => n - (intOf i).toNat)
  case atStart => exact ⟨0, false, [], _, _, _, Nat.zero_le _, rfl, rfl, Nat.le_refl _, hRES.out, hI0⟩
  case round =>
    obtain ⟨k, d, L, va, vn, vc, hk, rfl, rfl, hll, hI, hSr⟩ := hrel
    clear hI0 hRES
    by_cases hlt : k < n
    · have hkl : k < s.logs.length := by omega
      obtain ⟨x, hx⟩ : ∃ x, s.logs[k]? = some x := ⟨_, List.getElem?_eq_getElem hkl⟩
      have hI' := hI.out
      rw [List.drop_eq_getElem_cons hkl, (List.getElem?_eq_some_iff.1 hx).2] at hI'
      obtain ⟨b, off, r, rfl, hbl, _, ⟨hfo, xa, xn, xc, er, hes⟩, hrl, hrg⟩ := hlsr.out.rs.get hx
      have hlx : Hid (LV K w x (logC x.folder xa xn xc)) := ⟨hfo, xa, xn, xc, rfl, hes⟩
      have hxf : Hid (∀ W, Below w.heap.size w W → W.cell? ⟨b, off + k * 2, none⟩ = some (.int .i64 x.folder)) := fun W h => by
        rw [er] at hrg
        have := hrg 0 _ rfl
        rw [Nat.add_zero] at this
        exact (h.cell (p := ⟨b, _, none⟩) hbl).trans this
      have hxe : Hid (∀ W, Below w.heap.size w W → W.cell? ⟨b, off + k * 2 + 1, none⟩ = some (.slice xa xn xc)) := fun W h => by
        rw [er] at hrg
        exact (h.cell (p := ⟨b, _, none⟩) hbl).trans (hrg 1 _ rfl)
      have hll2 : Hid (L.length ≤ 2 * k) := hll
      have k0 : (0 : Int) ≤ (k : Int) := by omega
      have k1 : (k : Int) < (n : Int) := by omega
      clear hI hx hrg er hrl hfo hes hll
      by_cases hle : f ≤ x.folder
      · have hle' : decide (f ≤ x.folder) = true := by simpa using hle
        by_cases heq : x.folder = f
        · have hne : (x.folder != f) = false := by simp [heq]
          rw [Sto.withGo] at hI'
          rw [hle', if_neg (show ¬ x.folder ≠ f from fun h => h heq)] at hI'
          clear hle heq
          cases d with
          | true =>
            have s2 := hSr.out.bS.at_ (i := 2) rfl
            have hx0 := hxf.out wr hSr.out.bel
            go_wp2_with fail
            go_roundw
            case rel => exact ⟨k + 1, true, L, _, _, _, by omega, by go_num, rfl, by have := hll2.out; omega, by show _ = _; rw [← hI']; simp [of_decide_eq_true hle'], hSr⟩
            case measure => simp [intOf]; omega
          | false =>
            have s2 := hSr.out.bS.at_ (i := 2) rfl
            have hx0 := hxf.out wr hSr.out.bel
            obtain ⟨va2, vn2, vc2, W2, hA⟩ := hSr.out.app hsb.out (x := ⟨f, es⟩) hlv.out (by have := hll2.out; omega)
            have hap := Lib.hid hA.run
            have hS2 := Lib.hid hA.done
            have p2 := hA.cell
            have p3 := hA.froz
            have p4 := hSr.out.bX.at_ (i := 2) rfl
            clear hA
            go_upto_region 9 with (first
              | (refine wpList_bslice (by rfl) 22 1 _ rfl #[(0, .agg #[.int .i64 f, .slice ea en ec])] (by simp only [List.map_toArray, List.map_cons, List.map_nil]; rfl) (log_slice1 _ _ _ _ _) ?_)
              | (at_builtin; refine Lib.wpList_append_run _ rfl _ _ _ _ rfl _ _ rfl rfl _ _ (hap.out _) ?_))
            clear hSr hap p2 p3 p4 s2 hx0
            obtain ⟨W3, hW3⟩ : ∃ W, Hid (W2.setCell ⟨sb + 1 + 1, 2, none⟩ (.slice va2 vn2 vc2) = W) := ⟨_, rfl⟩
            rw [hW3.out] at hS2 ⊢
            clear hW3
            have s2 := hS2.out.bS.at_ (i := 2) rfl
            have hx0 := hxf.out W3 hS2.out.bel
            go_wp2_with fail
            go_roundw
            case rel => exact ⟨k + 1, true, L ++ [⟨f, es⟩], _, _, _, by omega, by go_num, rfl, by have := hll2.out; simp only [List.length_append, List.length_cons, List.length_nil]; omega, by show _ = _; rw [← hI']; simp [of_decide_eq_true hle'], hS2⟩
            case measure => simp [intOf]; omega
        · have hne : (x.folder != f) = true := by simp [heq]
          rw [Sto.withGo] at hI'
          rw [hle', if_pos (show x.folder ≠ f from heq)] at hI'
          clear hle heq
          cases d with
          | true =>
            have s2 := hSr.out.bS.at_ (i := 2) rfl
            have hx0 := hxf.out wr hSr.out.bel
            have p6 := hSr.out.bX.at_ (i := 2) rfl
            have hx1 := hxe.out wr hSr.out.bel
            go_upto_region 10 with fail
            refine wp_region_held_drew (S := fun wz => Below w.heap.size w wz ∧ Blk wz sb 24 (stC s (some ⟨b, off, none⟩) n c)) (by kernel_rfl) (⟨hSr.out.bel.drew, hSr.out.bS.below (Below.refl _ _).drew hSr.out.bS.lt⟩) (fun hHeld => ?_)
            have hSd := Lib.hid (hSr.out.next (Below.refl _ wr).drew)
            clear hSr p6 hx1 s2 hx0
            generalize World.drew _ = W5 at *
            obtain ⟨va4, vn4, vc4, W4, hA⟩ := hSd.out.app hsb.out (x := x) hlx.out (by have := hll2.out; omega)
            have hap := Lib.hid hA.run
            have hS4 := Lib.hid hA.done
            have p2 := hA.cell
            have p3 := hA.froz
            have p4 := hSd.out.bX.at_ (i := 2) rfl
            have hal : Below W5.heap.size W5 (W5.alloc (.cells (logC x.folder xa xn xc).toArray 84)) := (Below.refl _ W5).alloc (Nat.le_refl _) _
            have p7 := (hSd.out.next hal).bX.at_ (i := 2) rfl
            have hH2 : Hid (Below w.heap.size w (W5.alloc (.cells (logC x.folder xa xn xc).toArray 84)) ∧ Blk (W5.alloc (.cells (logC x.folder xa xn xc).toArray 84)) sb 24 (stC s (some ⟨b, off, none⟩) n c)) := ⟨(hSd.out.next hal).bel, (hSd.out.next hal).bS⟩
            have hH3 := Lib.hid hA.mid
            clear hA hal
            refine wpAnyH_take (i := 0) (oi := { dst := some 50, op := Op.fieldAddr 24 (Operand.tmp 7) 2, type := 0, pos := "ref.go:98", after := #[], guard := none }) (v := ?_) rfl (by kernel_rfl) (by kernel_rfl) (by kernel_rfl) (fun _ _ _ h => h) (Or.inl ⟨by rfl, ?_⟩) hHeld ?_
            rotate_left
            · intro wz hSw
              go_simp
              all_goals (with_reducible rfl)
            try simp only [Act.put, List.setIfInBounds_toArray, List.set_cons_zero, List.set_cons_succ]
            refine wpAnyH_take (i := 2) (oi := { dst := some 52, op := Op.fieldAddr 24 (Operand.tmp 3) 2, type := 0, pos := "ref.go:98", after := #[], guard := none }) (v := ?_) rfl (by kernel_rfl) (by kernel_rfl) (by kernel_rfl) (fun _ _ _ h => h) (Or.inl ⟨by rfl, ?_⟩) hHeld ?_
            rotate_left
            · intro wz hSw
              go_simp
              all_goals (with_reducible rfl)
            try simp only [Act.put, List.setIfInBounds_toArray, List.set_cons_zero, List.set_cons_succ]
            refine wpAnyH_take (i := 3) (oi := { dst := some 53, op := Op.load 22 (Operand.tmp 52), type := 22, pos := "ref.go:98", after := #[{ on := 2, ground := Ground.data }], guard := none }) (v := ?_) rfl (by kernel_rfl) (by kernel_rfl) (by kernel_rfl) (fun _ _ _ h => h) (Or.inl ⟨by rfl, ?_⟩) hHeld ?_
            rotate_left
            · intro wz hSw
              have q0 := hSw.2.at_ (i := 2) rfl
              go_simp
              all_goals (with_reducible rfl)
            try simp only [Act.put, List.setIfInBounds_toArray, List.set_cons_zero, List.set_cons_succ]
            refine wpAnyH_take (i := 4) (oi := { dst := some 54, op := Op.move (Operand.tmp 9), type := 3, pos := "ref.go:98", after := #[], guard := none }) (v := ?_) rfl (by kernel_rfl) (by kernel_rfl) (by kernel_rfl) (fun _ _ _ h => h) (Or.inl ⟨by rfl, ?_⟩) hHeld ?_
            rotate_left
            · intro wz hSw
              go_simp
              all_goals (with_reducible rfl)
            try simp only [Act.put, List.setIfInBounds_toArray, List.set_cons_zero, List.set_cons_succ]
            refine wpAnyH_take (i := 5) (oi := { dst := some 55, op := Op.indexAddr 22 (Operand.tmp 53) (Operand.tmp 54), type := 0, pos := "ref.go:98", after := #[{ on := 3, ground := Ground.data }, { on := 4, ground := Ground.data }], guard := none }) (v := ?_) rfl (by kernel_rfl) (by kernel_rfl) (by kernel_rfl) (fun _ _ _ h => h) (Or.inl ⟨by rfl, ?_⟩) hHeld ?_
            rotate_left
            · intro wz hSw
              go_simp
              all_goals (with_reducible rfl)
            try simp only [Act.put, List.setIfInBounds_toArray, List.set_cons_zero, List.set_cons_succ]
            refine wpAnyH_take (i := 6) (oi := { dst := some 56, op := Op.load 84 (Operand.tmp 55), type := 84, pos := "ref.go:98", after := #[{ on := 5, ground := Ground.data }], guard := none }) (v := ?_) rfl (by kernel_rfl) (by kernel_rfl) (by kernel_rfl) (fun _ _ _ h => h) (Or.inl ⟨by rfl, ?_⟩) hHeld ?_
            rotate_left
            · intro wz hSw
              have q1 := hxf.out wz hSw.1
              have q2 := hxe.out wz hSw.1
              go_simp
              all_goals (with_reducible rfl)
            try simp only [Act.put, List.setIfInBounds_toArray, List.set_cons_zero, List.set_cons_succ]
            refine wpAnyH_ready (rs := [1, 7]) (by kernel_rfl) (by simp) ?_
            refine AllReadyH.cons (o := { dst := some 51, op := Op.load 22 (Operand.tmp 50), type := 22, pos := "ref.go:98", after := #[{ on := 0, ground := Ground.data }], guard := none }) rfl (fun K hK => ?_) (AllReadyH.cons (o := { dst := some 57, op := Op.buildSlice 22 1 #[(0, Operand.tmp 56)], type := 22, pos := "ref.go:98", after := #[{ on := 6, ground := Ground.data }], guard := none }) rfl (fun K hK => ?_) AllReadyH.nil)
            case refine_1 =>
              rw [if_pos (by rfl)]
              show Oper.wp _ _ _ _ K _
              go_simp
              refine hK.out _ _ hHeld (fun _ => ?_)
              clear hK K p7
              try simp only [Act.put, List.setIfInBounds_toArray, List.set_cons_zero, List.set_cons_succ]
              refine wpAnyH_ready (rs := [7]) (by kernel_rfl) (by simp) ?_
              refine AllReadyH.cons (o := { dst := some 57, op := Op.buildSlice 22 1 #[(0, Operand.tmp 56)], type := 22, pos := "ref.go:98", after := #[{ on := 6, ground := Ground.data }], guard := none }) rfl (fun K hK => ?_) AllReadyH.nil
              rw [if_pos (by rfl)]
              show Oper.wp _ _ _ _ K _
              refine wp_bslice 22 1 _ rfl #[(0, .agg #[.int .i64 x.folder, .slice xa xn xc])] (by simp only [List.map_toArray, List.map_cons, List.map_nil]; rfl) (log_slice1 _ _ _ _ _) ?_
              refine hK.out _ _ hH2.out (fun _ => ?_)
              clear hK K
              try simp only [Act.put, List.setIfInBounds_toArray, List.set_cons_zero, List.set_cons_succ]
              refine wpAnyH_ready (rs := [8]) (by kernel_rfl) (by simp) ?_
              refine AllReadyH.cons (o := { dst := some 58, op := Op.call { callee := Callee.builtin Builtin.append, args := #[Operand.tmp 51, Operand.tmp 57], argTypes := #[22, 22] }, type := 22, pos := "ref.go:98", after := #[{ on := 1, ground := Ground.data }, { on := 7, ground := Ground.data }], guard := none }) rfl (fun K hK => ?_) AllReadyH.nil
              rw [if_pos (by rfl)]
              show Oper.wp _ _ _ _ K _
              refine wp_append_run rfl _ _ rfl rfl (hap.out _) ?_
              refine hK.out _ _ hH3.out (fun hHeld => ?_)
              clear hK K
              try simp only [Act.put, List.setIfInBounds_toArray, List.set_cons_zero, List.set_cons_succ]
              refine wpAnyH_take (i := 9) (oi := { dst := some 59, op := Op.fieldAddr 24 (Operand.tmp 7) 2, type := 0, pos := "ref.go:98", after := #[{ on := 0, ground := Ground.phase }, { on := 1, ground := Ground.phase }, { on := 2, ground := Ground.phase }, { on := 3, ground := Ground.phase }, { on := 4, ground := Ground.phase }, { on := 5, ground := Ground.phase }, { on := 6, ground := Ground.phase }, { on := 7, ground := Ground.phase }, { on := 8, ground := Ground.phase }], guard := none }) (v := ?_) rfl (by kernel_rfl) (by kernel_rfl) (by kernel_rfl) (fun _ _ _ h => h) (Or.inl ⟨by rfl, ?_⟩) hHeld ?_
              rotate_left
              · intro wz hSw
                go_simp
                all_goals (with_reducible rfl)
              try simp only [Act.put, List.setIfInBounds_toArray, List.set_cons_zero, List.set_cons_succ]
              refine wpAnyH_ready (rs := [10]) (by kernel_rfl) (by simp) ?_
              refine AllReadyH.cons (o := { dst := none, op := Op.store 22 (Operand.tmp 59) (Operand.tmp 58), type := 0, pos := "ref.go:98", after := #[{ on := 9, ground := Ground.data }, { on := 8, ground := Ground.data }, { on := 8, ground := Ground.chain }, { on := 0, ground := Ground.phase }, { on := 1, ground := Ground.phase }, { on := 2, ground := Ground.phase }, { on := 3, ground := Ground.phase }, { on := 4, ground := Ground.phase }, { on := 5, ground := Ground.phase }, { on := 6, ground := Ground.phase }, { on := 7, ground := Ground.phase }, { on := 8, ground := Ground.phase }], guard := none }) rfl (fun K hK => ?_) AllReadyH.nil
              rw [if_pos (by rfl)]
              show Oper.wp _ _ _ _ K _
              go_simp
              refine hK.out _ _ ⟨hS4.out.bel, hS4.out.bS⟩ (fun _ => ?_)
              clear hK K
              try simp only [Act.put, List.setIfInBounds_toArray, List.set_cons_zero, List.set_cons_succ]
              refine wpAnyH_done (by kernel_rfl) ?_ _
              clear p2 p3 hap
              go_wp2_with fail
              go_roundw
              case rel => exact ⟨k + 1, true, L ++ [x], _, _, _, by omega, by go_num, rfl, by have := hll2.out; simp only [List.length_append, List.length_cons, List.length_nil]; omega, by show _ = _; rw [← hI']; simp [of_decide_eq_true hle'], hS4⟩
              case measure => simp [intOf]; omega
            case refine_2 =>
              rw [if_pos (by rfl)]
              show Oper.wp _ _ _ _ K _
              refine wp_bslice 22 1 _ rfl #[(0, .agg #[.int .i64 x.folder, .slice xa xn xc])] (by simp only [List.map_toArray, List.map_cons, List.map_nil]; rfl) (log_slice1 _ _ _ _ _) ?_
              refine hK.out _ _ hH2.out (fun _ => ?_)
              clear hK K p4
              try simp only [Act.put, List.setIfInBounds_toArray, List.set_cons_zero, List.set_cons_succ]
              refine wpAnyH_ready (rs := [1]) (by kernel_rfl) (by simp) ?_
              refine AllReadyH.cons (o := { dst := some 51, op := Op.load 22 (Operand.tmp 50), type := 22, pos := "ref.go:98", after := #[{ on := 0, ground := Ground.data }], guard := none }) rfl (fun K hK => ?_) AllReadyH.nil
              rw [if_pos (by rfl)]
              show Oper.wp _ _ _ _ K _
              go_simp
              refine hK.out _ _ hH2.out (fun _ => ?_)
              clear hK K
              try simp only [Act.put, List.setIfInBounds_toArray, List.set_cons_zero, List.set_cons_succ]
              refine wpAnyH_ready (rs := [8]) (by kernel_rfl) (by simp) ?_
              refine AllReadyH.cons (o := { dst := some 58, op := Op.call { callee := Callee.builtin Builtin.append, args := #[Operand.tmp 51, Operand.tmp 57], argTypes := #[22, 22] }, type := 22, pos := "ref.go:98", after := #[{ on := 1, ground := Ground.data }, { on := 7, ground := Ground.data }], guard := none }) rfl (fun K hK => ?_) AllReadyH.nil
              rw [if_pos (by rfl)]
              show Oper.wp _ _ _ _ K _
              refine wp_append_run rfl _ _ rfl rfl (hap.out _) ?_
              refine hK.out _ _ hH3.out (fun hHeld => ?_)
              clear hK K
              try simp only [Act.put, List.setIfInBounds_toArray, List.set_cons_zero, List.set_cons_succ]
              refine wpAnyH_take (i := 9) (oi := { dst := some 59, op := Op.fieldAddr 24 (Operand.tmp 7) 2, type := 0, pos := "ref.go:98", after := #[{ on := 0, ground := Ground.phase }, { on := 1, ground := Ground.phase }, { on := 2, ground := Ground.phase }, { on := 3, ground := Ground.phase }, { on := 4, ground := Ground.phase }, { on := 5, ground := Ground.phase }, { on := 6, ground := Ground.phase }, { on := 7, ground := Ground.phase }, { on := 8, ground := Ground.phase }], guard := none }) (v := ?_) rfl (by kernel_rfl) (by kernel_rfl) (by kernel_rfl) (fun _ _ _ h => h) (Or.inl ⟨by rfl, ?_⟩) hHeld ?_
              rotate_left
              · intro wz hSw
                go_simp
                all_goals (with_reducible rfl)
              try simp only [Act.put, List.setIfInBounds_toArray, List.set_cons_zero, List.set_cons_succ]
              refine wpAnyH_ready (rs := [10]) (by kernel_rfl) (by simp) ?_
              refine AllReadyH.cons (o := { dst := none, op := Op.store 22 (Operand.tmp 59) (Operand.tmp 58), type := 0, pos := "ref.go:98", after := #[{ on := 9, ground := Ground.data }, { on := 8, ground := Ground.data }, { on := 8, ground := Ground.chain }, { on := 0, ground := Ground.phase }, { on := 1, ground := Ground.phase }, { on := 2, ground := Ground.phase }, { on := 3, ground := Ground.phase }, { on := 4, ground := Ground.phase }, { on := 5, ground := Ground.phase }, { on := 6, ground := Ground.phase }, { on := 7, ground := Ground.phase }, { on := 8, ground := Ground.phase }], guard := none }) rfl (fun K hK => ?_) AllReadyH.nil
              rw [if_pos (by rfl)]
              show Oper.wp _ _ _ _ K _
              go_simp
              refine hK.out _ _ ⟨hS4.out.bel, hS4.out.bS⟩ (fun _ => ?_)
              clear hK K
              try simp only [Act.put, List.setIfInBounds_toArray, List.set_cons_zero, List.set_cons_succ]
              refine wpAnyH_done (by kernel_rfl) ?_ _
              clear p2 p3 hap
              go_wp2_with fail
              go_roundw
              case rel => exact ⟨k + 1, true, L ++ [x], _, _, _, by omega, by go_num, rfl, by have := hll2.out; simp only [List.length_append, List.length_cons, List.length_nil]; omega, by show _ = _; rw [← hI']; simp [of_decide_eq_true hle'], hS4⟩
              case measure => simp [intOf]; omega
          | false =>
            have s2 := hSr.out.bS.at_ (i := 2) rfl
            have hx0 := hxf.out wr hSr.out.bel
            obtain ⟨va2, vn2, vc2, W2, hA⟩ := hSr.out.app hsb.out (x := ⟨f, es⟩) hlv.out (by have := hll2.out; omega)
            have hap := Lib.hid hA.run
            have hS2 := Lib.hid hA.done
            have p2 := hA.cell
            have p3 := hA.froz
            have p4 := hSr.out.bX.at_ (i := 2) rfl
            clear hA
            go_upto_region 9 with (first
              | (refine wpList_bslice (by rfl) 22 1 _ rfl #[(0, .agg #[.int .i64 f, .slice ea en ec])] (by simp only [List.map_toArray, List.map_cons, List.map_nil]; rfl) (log_slice1 _ _ _ _ _) ?_)
              | (at_builtin; refine Lib.wpList_append_run _ rfl _ _ _ _ rfl _ _ rfl rfl _ _ (hap.out _) ?_))
            clear hSr hap p2 p3 p4 s2 hx0
            obtain ⟨W3, hW3⟩ : ∃ W, Hid (W2.setCell ⟨sb + 1 + 1, 2, none⟩ (.slice va2 vn2 vc2) = W) := ⟨_, rfl⟩
            rw [hW3.out] at hS2 ⊢
            clear hW3
            have s2 := hS2.out.bS.at_ (i := 2) rfl
            have hx0 := hxf.out W3 hS2.out.bel
            have p6 := hS2.out.bX.at_ (i := 2) rfl
            have hx1 := hxe.out W3 hS2.out.bel
            go_upto_region 10 with fail
            refine wp_region_held_drew (S := fun wz => Below w.heap.size w wz ∧ Blk wz sb 24 (stC s (some ⟨b, off, none⟩) n c)) (by kernel_rfl) (⟨hS2.out.bel.drew, hS2.out.bS.below (Below.refl _ _).drew hS2.out.bS.lt⟩) (fun hHeld => ?_)
            have hSd := Lib.hid (hS2.out.next (Below.refl _ W3).drew)
            clear hS2 p6 hx1 s2 hx0
            generalize World.drew _ = W5 at *
            obtain ⟨va4, vn4, vc4, W4, hA⟩ := hSd.out.app hsb.out (x := x) hlx.out (by rw [List.length_append]; simp only [List.length_cons, List.length_nil]; have := hll2.out; omega)
            have hap := Lib.hid hA.run
            have hS4 := Lib.hid hA.done
            have p2 := hA.cell
            have p3 := hA.froz
            have p4 := hSd.out.bX.at_ (i := 2) rfl
            have hal : Below W5.heap.size W5 (W5.alloc (.cells (logC x.folder xa xn xc).toArray 84)) := (Below.refl _ W5).alloc (Nat.le_refl _) _
            have p7 := (hSd.out.next hal).bX.at_ (i := 2) rfl
            have hH2 : Hid (Below w.heap.size w (W5.alloc (.cells (logC x.folder xa xn xc).toArray 84)) ∧ Blk (W5.alloc (.cells (logC x.folder xa xn xc).toArray 84)) sb 24 (stC s (some ⟨b, off, none⟩) n c)) := ⟨(hSd.out.next hal).bel, (hSd.out.next hal).bS⟩
            have hH3 := Lib.hid hA.mid
            clear hA hal
            refine wpAnyH_take (i := 0) (oi := { dst := some 50, op := Op.fieldAddr 24 (Operand.tmp 7) 2, type := 0, pos := "ref.go:98", after := #[], guard := none }) (v := ?_) rfl (by kernel_rfl) (by kernel_rfl) (by kernel_rfl) (fun _ _ _ h => h) (Or.inl ⟨by rfl, ?_⟩) hHeld ?_
            rotate_left
            · intro wz hSw
              go_simp
              all_goals (with_reducible rfl)
            try simp only [Act.put, List.setIfInBounds_toArray, List.set_cons_zero, List.set_cons_succ]
            refine wpAnyH_take (i := 2) (oi := { dst := some 52, op := Op.fieldAddr 24 (Operand.tmp 3) 2, type := 0, pos := "ref.go:98", after := #[], guard := none }) (v := ?_) rfl (by kernel_rfl) (by kernel_rfl) (by kernel_rfl) (fun _ _ _ h => h) (Or.inl ⟨by rfl, ?_⟩) hHeld ?_
            rotate_left
            · intro wz hSw
              go_simp
              all_goals (with_reducible rfl)
            try simp only [Act.put, List.setIfInBounds_toArray, List.set_cons_zero, List.set_cons_succ]
            refine wpAnyH_take (i := 3) (oi := { dst := some 53, op := Op.load 22 (Operand.tmp 52), type := 22, pos := "ref.go:98", after := #[{ on := 2, ground := Ground.data }], guard := none }) (v := ?_) rfl (by kernel_rfl) (by kernel_rfl) (by kernel_rfl) (fun _ _ _ h => h) (Or.inl ⟨by rfl, ?_⟩) hHeld ?_
            rotate_left
            · intro wz hSw
              have q0 := hSw.2.at_ (i := 2) rfl
              go_simp
              all_goals (with_reducible rfl)
            try simp only [Act.put, List.setIfInBounds_toArray, List.set_cons_zero, List.set_cons_succ]
            refine wpAnyH_take (i := 4) (oi := { dst := some 54, op := Op.move (Operand.tmp 9), type := 3, pos := "ref.go:98", after := #[], guard := none }) (v := ?_) rfl (by kernel_rfl) (by kernel_rfl) (by kernel_rfl) (fun _ _ _ h => h) (Or.inl ⟨by rfl, ?_⟩) hHeld ?_
            rotate_left
            · intro wz hSw
              go_simp
              all_goals (with_reducible rfl)
            try simp only [Act.put, List.setIfInBounds_toArray, List.set_cons_zero, List.set_cons_succ]
            refine wpAnyH_take (i := 5) (oi := { dst := some 55, op := Op.indexAddr 22 (Operand.tmp 53) (Operand.tmp 54), type := 0, pos := "ref.go:98", after := #[{ on := 3, ground := Ground.data }, { on := 4, ground := Ground.data }], guard := none }) (v := ?_) rfl (by kernel_rfl) (by kernel_rfl) (by kernel_rfl) (fun _ _ _ h => h) (Or.inl ⟨by rfl, ?_⟩) hHeld ?_
            rotate_left
            · intro wz hSw
              go_simp
              all_goals (with_reducible rfl)
            try simp only [Act.put, List.setIfInBounds_toArray, List.set_cons_zero, List.set_cons_succ]
            refine wpAnyH_take (i := 6) (oi := { dst := some 56, op := Op.load 84 (Operand.tmp 55), type := 84, pos := "ref.go:98", after := #[{ on := 5, ground := Ground.data }], guard := none }) (v := ?_) rfl (by kernel_rfl) (by kernel_rfl) (by kernel_rfl) (fun _ _ _ h => h) (Or.inl ⟨by rfl, ?_⟩) hHeld ?_
            rotate_left
            · intro wz hSw
              have q1 := hxf.out wz hSw.1
              have q2 := hxe.out wz hSw.1
              go_simp
              all_goals (with_reducible rfl)
            try simp only [Act.put, List.setIfInBounds_toArray, List.set_cons_zero, List.set_cons_succ]
            refine wpAnyH_ready (rs := [1, 7]) (by kernel_rfl) (by simp) ?_
            refine AllReadyH.cons (o := { dst := some 51, op := Op.load 22 (Operand.tmp 50), type := 22, pos := "ref.go:98", after := #[{ on := 0, ground := Ground.data }], guard := none }) rfl (fun K hK => ?_) (AllReadyH.cons (o := { dst := some 57, op := Op.buildSlice 22 1 #[(0, Operand.tmp 56)], type := 22, pos := "ref.go:98", after := #[{ on := 6, ground := Ground.data }], guard := none }) rfl (fun K hK => ?_) AllReadyH.nil)
            case refine_1 =>
              rw [if_pos (by rfl)]
              show Oper.wp _ _ _ _ K _
              go_simp
              refine hK.out _ _ hHeld (fun _ => ?_)
              clear hK K p7
              try simp only [Act.put, List.setIfInBounds_toArray, List.set_cons_zero, List.set_cons_succ]
              refine wpAnyH_ready (rs := [7]) (by kernel_rfl) (by simp) ?_
              refine AllReadyH.cons (o := { dst := some 57, op := Op.buildSlice 22 1 #[(0, Operand.tmp 56)], type := 22, pos := "ref.go:98", after := #[{ on := 6, ground := Ground.data }], guard := none }) rfl (fun K hK => ?_) AllReadyH.nil
              rw [if_pos (by rfl)]
              show Oper.wp _ _ _ _ K _
              refine wp_bslice 22 1 _ rfl #[(0, .agg #[.int .i64 x.folder, .slice xa xn xc])] (by simp only [List.map_toArray, List.map_cons, List.map_nil]; rfl) (log_slice1 _ _ _ _ _) ?_
              refine hK.out _ _ hH2.out (fun _ => ?_)
              clear hK K
              try simp only [Act.put, List.setIfInBounds_toArray, List.set_cons_zero, List.set_cons_succ]
              refine wpAnyH_ready (rs := [8]) (by kernel_rfl) (by simp) ?_
              refine AllReadyH.cons (o := { dst := some 58, op := Op.call { callee := Callee.builtin Builtin.append, args := #[Operand.tmp 51, Operand.tmp 57], argTypes := #[22, 22] }, type := 22, pos := "ref.go:98", after := #[{ on := 1, ground := Ground.data }, { on := 7, ground := Ground.data }], guard := none }) rfl (fun K hK => ?_) AllReadyH.nil
              rw [if_pos (by rfl)]
              show Oper.wp _ _ _ _ K _
              refine wp_append_run rfl _ _ rfl rfl (hap.out _) ?_
              refine hK.out _ _ hH3.out (fun hHeld => ?_)
              clear hK K
              try simp only [Act.put, List.setIfInBounds_toArray, List.set_cons_zero, List.set_cons_succ]
              refine wpAnyH_take (i := 9) (oi := { dst := some 59, op := Op.fieldAddr 24 (Operand.tmp 7) 2, type := 0, pos := "ref.go:98", after := #[{ on := 0, ground := Ground.phase }, { on := 1, ground := Ground.phase }, { on := 2, ground := Ground.phase }, { on := 3, ground := Ground.phase }, { on := 4, ground := Ground.phase }, { on := 5, ground := Ground.phase }, { on := 6, ground := Ground.phase }, { on := 7, ground := Ground.phase }, { on := 8, ground := Ground.phase }], guard := none }) (v := ?_) rfl (by kernel_rfl) (by kernel_rfl) (by kernel_rfl) (fun _ _ _ h => h) (Or.inl ⟨by rfl, ?_⟩) hHeld ?_
              rotate_left
              · intro wz hSw
                go_simp
                all_goals (with_reducible rfl)
              try simp only [Act.put, List.setIfInBounds_toArray, List.set_cons_zero, List.set_cons_succ]
              refine wpAnyH_ready (rs := [10]) (by kernel_rfl) (by simp) ?_
              refine AllReadyH.cons (o := { dst := none, op := Op.store 22 (Operand.tmp 59) (Operand.tmp 58), type := 0, pos := "ref.go:98", after := #[{ on := 9, ground := Ground.data }, { on := 8, ground := Ground.data }, { on := 8, ground := Ground.chain }, { on := 0, ground := Ground.phase }, { on := 1, ground := Ground.phase }, { on := 2, ground := Ground.phase }, { on := 3, ground := Ground.phase }, { on := 4, ground := Ground.phase }, { on := 5, ground := Ground.phase }, { on := 6, ground := Ground.phase }, { on := 7, ground := Ground.phase }, { on := 8, ground := Ground.phase }], guard := none }) rfl (fun K hK => ?_) AllReadyH.nil
              rw [if_pos (by rfl)]
              show Oper.wp _ _ _ _ K _
              go_simp
              refine hK.out _ _ ⟨hS4.out.bel, hS4.out.bS⟩ (fun _ => ?_)
              clear hK K
              try simp only [Act.put, List.setIfInBounds_toArray, List.set_cons_zero, List.set_cons_succ]
              refine wpAnyH_done (by kernel_rfl) ?_ _
              clear p2 p3 hap
              go_wp2_with fail
              go_roundw
              case rel => exact ⟨k + 1, true, L ++ [⟨f, es⟩] ++ [x], _, _, _, by omega, by go_num, rfl, by have := hll2.out; simp only [List.length_append, List.length_cons, List.length_nil]; omega, by show _ = _; rw [← hI']; simp [of_decide_eq_true hle'], hS4⟩
              case measure => simp [intOf]; omega
            case refine_2 =>
              rw [if_pos (by rfl)]
              show Oper.wp _ _ _ _ K _
              refine wp_bslice 22 1 _ rfl #[(0, .agg #[.int .i64 x.folder, .slice xa xn xc])] (by simp only [List.map_toArray, List.map_cons, List.map_nil]; rfl) (log_slice1 _ _ _ _ _) ?_
              refine hK.out _ _ hH2.out (fun _ => ?_)
              clear hK K p4
              try simp only [Act.put, List.setIfInBounds_toArray, List.set_cons_zero, List.set_cons_succ]
              refine wpAnyH_ready (rs := [1]) (by kernel_rfl) (by simp) ?_
              refine AllReadyH.cons (o := { dst := some 51, op := Op.load 22 (Operand.tmp 50), type := 22, pos := "ref.go:98", after := #[{ on := 0, ground := Ground.data }], guard := none }) rfl (fun K hK => ?_) AllReadyH.nil
              rw [if_pos (by rfl)]
              show Oper.wp _ _ _ _ K _
              go_simp
              refine hK.out _ _ hH2.out (fun _ => ?_)
              clear hK K
              try simp only [Act.put, List.setIfInBounds_toArray, List.set_cons_zero, List.set_cons_succ]
              refine wpAnyH_ready (rs := [8]) (by kernel_rfl) (by simp) ?_
              refine AllReadyH.cons (o := { dst := some 58, op := Op.call { callee := Callee.builtin Builtin.append, args := #[Operand.tmp 51, Operand.tmp 57], argTypes := #[22, 22] }, type := 22, pos := "ref.go:98", after := #[{ on := 1, ground := Ground.data }, { on := 7, ground := Ground.data }], guard := none }) rfl (fun K hK => ?_) AllReadyH.nil
              rw [if_pos (by rfl)]
              show Oper.wp _ _ _ _ K _
              refine wp_append_run rfl _ _ rfl rfl (hap.out _) ?_
              refine hK.out _ _ hH3.out (fun hHeld => ?_)
              clear hK K
              try simp only [Act.put, List.setIfInBounds_toArray, List.set_cons_zero, List.set_cons_succ]
              refine wpAnyH_take (i := 9) (oi := { dst := some 59, op := Op.fieldAddr 24 (Operand.tmp 7) 2, type := 0, pos := "ref.go:98", after := #[{ on := 0, ground := Ground.phase }, { on := 1, ground := Ground.phase }, { on := 2, ground := Ground.phase }, { on := 3, ground := Ground.phase }, { on := 4, ground := Ground.phase }, { on := 5, ground := Ground.phase }, { on := 6, ground := Ground.phase }, { on := 7, ground := Ground.phase }, { on := 8, ground := Ground.phase }], guard := none }) (v := ?_) rfl (by kernel_rfl) (by kernel_rfl) (by kernel_rfl) (fun _ _ _ h => h) (Or.inl ⟨by rfl, ?_⟩) hHeld ?_
              rotate_left
              · intro wz hSw
                go_simp
                all_goals (with_reducible rfl)
              try simp only [Act.put, List.setIfInBounds_toArray, List.set_cons_zero, List.set_cons_succ]
              refine wpAnyH_ready (rs := [10]) (by kernel_rfl) (by simp) ?_
              refine AllReadyH.cons (o := { dst := none, op := Op.store 22 (Operand.tmp 59) (Operand.tmp 58), type := 0, pos := "ref.go:98", after := #[{ on := 9, ground := Ground.data }, { on := 8, ground := Ground.data }, { on := 8, ground := Ground.chain }, { on := 0, ground := Ground.phase }, { on := 1, ground := Ground.phase }, { on := 2, ground := Ground.phase }, { on := 3, ground := Ground.phase }, { on := 4, ground := Ground.phase }, { on := 5, ground := Ground.phase }, { on := 6, ground := Ground.phase }, { on := 7, ground := Ground.phase }, { on := 8, ground := Ground.phase }], guard := none }) rfl (fun K hK => ?_) AllReadyH.nil
              rw [if_pos (by rfl)]
              show Oper.wp _ _ _ _ K _
              go_simp
              refine hK.out _ _ ⟨hS4.out.bel, hS4.out.bS⟩ (fun _ => ?_)
              clear hK K
              try simp only [Act.put, List.setIfInBounds_toArray, List.set_cons_zero, List.set_cons_succ]
              refine wpAnyH_done (by kernel_rfl) ?_ _
              clear p2 p3 hap
              go_wp2_with fail
              go_roundw
              case rel => exact ⟨k + 1, true, L ++ [⟨f, es⟩] ++ [x], _, _, _, by omega, by go_num, rfl, by have := hll2.out; simp only [List.length_append, List.length_cons, List.length_nil]; omega, by show _ = _; rw [← hI']; simp [of_decide_eq_true hle'], hS4⟩
              case measure => simp [intOf]; omega
      · have hle' : decide (f ≤ x.folder) = false := by simpa using hle
        have heq : ¬ x.folder = f := by omega
        have hne : (x.folder != f) = true := by simp [heq]
        rw [Sto.withGo] at hI'
        rw [hle', if_pos (show x.folder ≠ f from heq)] at hI'
        clear hle heq
        cases d with
        | true =>
          have s2 := hSr.out.bS.at_ (i := 2) rfl
          have hx0 := hxf.out wr hSr.out.bel
          have p6 := hSr.out.bX.at_ (i := 2) rfl
          have hx1 := hxe.out wr hSr.out.bel
          go_upto_region 10 with fail
          refine wp_region_held_drew (S := fun wz => Below w.heap.size w wz ∧ Blk wz sb 24 (stC s (some ⟨b, off, none⟩) n c)) (by kernel_rfl) (⟨hSr.out.bel.drew, hSr.out.bS.below (Below.refl _ _).drew hSr.out.bS.lt⟩) (fun hHeld => ?_)
          have hSd := Lib.hid (hSr.out.next (Below.refl _ wr).drew)
          clear hSr p6 hx1 s2 hx0
          generalize World.drew _ = W5 at *
          obtain ⟨va4, vn4, vc4, W4, hA⟩ := hSd.out.app hsb.out (x := x) hlx.out (by have := hll2.out; omega)
          have hap := Lib.hid hA.run
          have hS4 := Lib.hid hA.done
          have p2 := hA.cell
          have p3 := hA.froz
          have p4 := hSd.out.bX.at_ (i := 2) rfl
          have hal : Below W5.heap.size W5 (W5.alloc (.cells (logC x.folder xa xn xc).toArray 84)) := (Below.refl _ W5).alloc (Nat.le_refl _) _
          have p7 := (hSd.out.next hal).bX.at_ (i := 2) rfl
          have hH2 : Hid (Below w.heap.size w (W5.alloc (.cells (logC x.folder xa xn xc).toArray 84)) ∧ Blk (W5.alloc (.cells (logC x.folder xa xn xc).toArray 84)) sb 24 (stC s (some ⟨b, off, none⟩) n c)) := ⟨(hSd.out.next hal).bel, (hSd.out.next hal).bS⟩
          have hH3 := Lib.hid hA.mid
          clear hA hal
          refine wpAnyH_take (i := 0) (oi := { dst := some 50, op := Op.fieldAddr 24 (Operand.tmp 7) 2, type := 0, pos := "ref.go:98", after := #[], guard := none }) (v := ?_) rfl (by kernel_rfl) (by kernel_rfl) (by kernel_rfl) (fun _ _ _ h => h) (Or.inl ⟨by rfl, ?_⟩) hHeld ?_
          rotate_left
          · intro wz hSw
            go_simp
            all_goals (with_reducible rfl)
          try simp only [Act.put, List.setIfInBounds_toArray, List.set_cons_zero, List.set_cons_succ]
          refine wpAnyH_take (i := 2) (oi := { dst := some 52, op := Op.fieldAddr 24 (Operand.tmp 3) 2, type := 0, pos := "ref.go:98", after := #[], guard := none }) (v := ?_) rfl (by kernel_rfl) (by kernel_rfl) (by kernel_rfl) (fun _ _ _ h => h) (Or.inl ⟨by rfl, ?_⟩) hHeld ?_
          rotate_left
          · intro wz hSw
            go_simp
            all_goals (with_reducible rfl)
          try simp only [Act.put, List.setIfInBounds_toArray, List.set_cons_zero, List.set_cons_succ]
          refine wpAnyH_take (i := 3) (oi := { dst := some 53, op := Op.load 22 (Operand.tmp 52), type := 22, pos := "ref.go:98", after := #[{ on := 2, ground := Ground.data }], guard := none }) (v := ?_) rfl (by kernel_rfl) (by kernel_rfl) (by kernel_rfl) (fun _ _ _ h => h) (Or.inl ⟨by rfl, ?_⟩) hHeld ?_
          rotate_left
          · intro wz hSw
            have q0 := hSw.2.at_ (i := 2) rfl
            go_simp
            all_goals (with_reducible rfl)
          try simp only [Act.put, List.setIfInBounds_toArray, List.set_cons_zero, List.set_cons_succ]
          refine wpAnyH_take (i := 4) (oi := { dst := some 54, op := Op.move (Operand.tmp 9), type := 3, pos := "ref.go:98", after := #[], guard := none }) (v := ?_) rfl (by kernel_rfl) (by kernel_rfl) (by kernel_rfl) (fun _ _ _ h => h) (Or.inl ⟨by rfl, ?_⟩) hHeld ?_
          rotate_left
          · intro wz hSw
            go_simp
            all_goals (with_reducible rfl)
          try simp only [Act.put, List.setIfInBounds_toArray, List.set_cons_zero, List.set_cons_succ]
          refine wpAnyH_take (i := 5) (oi := { dst := some 55, op := Op.indexAddr 22 (Operand.tmp 53) (Operand.tmp 54), type := 0, pos := "ref.go:98", after := #[{ on := 3, ground := Ground.data }, { on := 4, ground := Ground.data }], guard := none }) (v := ?_) rfl (by kernel_rfl) (by kernel_rfl) (by kernel_rfl) (fun _ _ _ h => h) (Or.inl ⟨by rfl, ?_⟩) hHeld ?_
          rotate_left
          · intro wz hSw
            go_simp
            all_goals (with_reducible rfl)
          try simp only [Act.put, List.setIfInBounds_toArray, List.set_cons_zero, List.set_cons_succ]
          refine wpAnyH_take (i := 6) (oi := { dst := some 56, op := Op.load 84 (Operand.tmp 55), type := 84, pos := "ref.go:98", after := #[{ on := 5, ground := Ground.data }], guard := none }) (v := ?_) rfl (by kernel_rfl) (by kernel_rfl) (by kernel_rfl) (fun _ _ _ h => h) (Or.inl ⟨by rfl, ?_⟩) hHeld ?_
          rotate_left
          · intro wz hSw
            have q1 := hxf.out wz hSw.1
            have q2 := hxe.out wz hSw.1
            go_simp
            all_goals (with_reducible rfl)
          try simp only [Act.put, List.setIfInBounds_toArray, List.set_cons_zero, List.set_cons_succ]
          refine wpAnyH_ready (rs := [1, 7]) (by kernel_rfl) (by simp) ?_
          refine AllReadyH.cons (o := { dst := some 51, op := Op.load 22 (Operand.tmp 50), type := 22, pos := "ref.go:98", after := #[{ on := 0, ground := Ground.data }], guard := none }) rfl (fun K hK => ?_) (AllReadyH.cons (o := { dst := some 57, op := Op.buildSlice 22 1 #[(0, Operand.tmp 56)], type := 22, pos := "ref.go:98", after := #[{ on := 6, ground := Ground.data }], guard := none }) rfl (fun K hK => ?_) AllReadyH.nil)
          case refine_1 =>
            rw [if_pos (by rfl)]
            show Oper.wp _ _ _ _ K _
            go_simp
            refine hK.out _ _ hHeld (fun _ => ?_)
            clear hK K p7
            try simp only [Act.put, List.setIfInBounds_toArray, List.set_cons_zero, List.set_cons_succ]
            refine wpAnyH_ready (rs := [7]) (by kernel_rfl) (by simp) ?_
            refine AllReadyH.cons (o := { dst := some 57, op := Op.buildSlice 22 1 #[(0, Operand.tmp 56)], type := 22, pos := "ref.go:98", after := #[{ on := 6, ground := Ground.data }], guard := none }) rfl (fun K hK => ?_) AllReadyH.nil
            rw [if_pos (by rfl)]
            show Oper.wp _ _ _ _ K _
            refine wp_bslice 22 1 _ rfl #[(0, .agg #[.int .i64 x.folder, .slice xa xn xc])] (by simp only [List.map_toArray, List.map_cons, List.map_nil]; rfl) (log_slice1 _ _ _ _ _) ?_
            refine hK.out _ _ hH2.out (fun _ => ?_)
            clear hK K
            try simp only [Act.put, List.setIfInBounds_toArray, List.set_cons_zero, List.set_cons_succ]
            refine wpAnyH_ready (rs := [8]) (by kernel_rfl) (by simp) ?_
            refine AllReadyH.cons (o := { dst := some 58, op := Op.call { callee := Callee.builtin Builtin.append, args := #[Operand.tmp 51, Operand.tmp 57], argTypes := #[22, 22] }, type := 22, pos := "ref.go:98", after := #[{ on := 1, ground := Ground.data }, { on := 7, ground := Ground.data }], guard := none }) rfl (fun K hK => ?_) AllReadyH.nil
            rw [if_pos (by rfl)]
            show Oper.wp _ _ _ _ K _
            refine wp_append_run rfl _ _ rfl rfl (hap.out _) ?_
            refine hK.out _ _ hH3.out (fun hHeld => ?_)
            clear hK K
            try simp only [Act.put, List.setIfInBounds_toArray, List.set_cons_zero, List.set_cons_succ]
            refine wpAnyH_take (i := 9) (oi := { dst := some 59, op := Op.fieldAddr 24 (Operand.tmp 7) 2, type := 0, pos := "ref.go:98", after := #[{ on := 0, ground := Ground.phase }, { on := 1, ground := Ground.phase }, { on := 2, ground := Ground.phase }, { on := 3, ground := Ground.phase }, { on := 4, ground := Ground.phase }, { on := 5, ground := Ground.phase }, { on := 6, ground := Ground.phase }, { on := 7, ground := Ground.phase }, { on := 8, ground := Ground.phase }], guard := none }) (v := ?_) rfl (by kernel_rfl) (by kernel_rfl) (by kernel_rfl) (fun _ _ _ h => h) (Or.inl ⟨by rfl, ?_⟩) hHeld ?_
            rotate_left
            · intro wz hSw
              go_simp
              all_goals (with_reducible rfl)
            try simp only [Act.put, List.setIfInBounds_toArray, List.set_cons_zero, List.set_cons_succ]
            refine wpAnyH_ready (rs := [10]) (by kernel_rfl) (by simp) ?_
            refine AllReadyH.cons (o := { dst := none, op := Op.store 22 (Operand.tmp 59) (Operand.tmp 58), type := 0, pos := "ref.go:98", after := #[{ on := 9, ground := Ground.data }, { on := 8, ground := Ground.data }, { on := 8, ground := Ground.chain }, { on := 0, ground := Ground.phase }, { on := 1, ground := Ground.phase }, { on := 2, ground := Ground.phase }, { on := 3, ground := Ground.phase }, { on := 4, ground := Ground.phase }, { on := 5, ground := Ground.phase }, { on := 6, ground := Ground.phase }, { on := 7, ground := Ground.phase }, { on := 8, ground := Ground.phase }], guard := none }) rfl (fun K hK => ?_) AllReadyH.nil
            rw [if_pos (by rfl)]
            show Oper.wp _ _ _ _ K _
            go_simp
            refine hK.out _ _ ⟨hS4.out.bel, hS4.out.bS⟩ (fun _ => ?_)
            clear hK K
            try simp only [Act.put, List.setIfInBounds_toArray, List.set_cons_zero, List.set_cons_succ]
            refine wpAnyH_done (by kernel_rfl) ?_ _
            clear p2 p3 hap
            go_wp2_with fail
            go_roundw
            case rel => exact ⟨k + 1, true, L ++ [x], _, _, _, by omega, by go_num, rfl, by have := hll2.out; simp only [List.length_append, List.length_cons, List.length_nil]; omega, by show _ = _; rw [← hI']; simp [of_decide_eq_false hle'], hS4⟩
            case measure => simp [intOf]; omega
          case refine_2 =>
            rw [if_pos (by rfl)]
            show Oper.wp _ _ _ _ K _
            refine wp_bslice 22 1 _ rfl #[(0, .agg #[.int .i64 x.folder, .slice xa xn xc])] (by simp only [List.map_toArray, List.map_cons, List.map_nil]; rfl) (log_slice1 _ _ _ _ _) ?_
            refine hK.out _ _ hH2.out (fun _ => ?_)
            clear hK K p4
            try simp only [Act.put, List.setIfInBounds_toArray, List.set_cons_zero, List.set_cons_succ]
            refine wpAnyH_ready (rs := [1]) (by kernel_rfl) (by simp) ?_
            refine AllReadyH.cons (o := { dst := some 51, op := Op.load 22 (Operand.tmp 50), type := 22, pos := "ref.go:98", after := #[{ on := 0, ground := Ground.data }], guard := none }) rfl (fun K hK => ?_) AllReadyH.nil
            rw [if_pos (by rfl)]
            show Oper.wp _ _ _ _ K _
            go_simp
            refine hK.out _ _ hH2.out (fun _ => ?_)
            clear hK K
            try simp only [Act.put, List.setIfInBounds_toArray, List.set_cons_zero, List.set_cons_succ]
            refine wpAnyH_ready (rs := [8]) (by kernel_rfl) (by simp) ?_
            refine AllReadyH.cons (o := { dst := some 58, op := Op.call { callee := Callee.builtin Builtin.append, args := #[Operand.tmp 51, Operand.tmp 57], argTypes := #[22, 22] }, type := 22, pos := "ref.go:98", after := #[{ on := 1, ground := Ground.data }, { on := 7, ground := Ground.data }], guard := none }) rfl (fun K hK => ?_) AllReadyH.nil
            rw [if_pos (by rfl)]
            show Oper.wp _ _ _ _ K _
            refine wp_append_run rfl _ _ rfl rfl (hap.out _) ?_
            refine hK.out _ _ hH3.out (fun hHeld => ?_)
            clear hK K
            try simp only [Act.put, List.setIfInBounds_toArray, List.set_cons_zero, List.set_cons_succ]
            refine wpAnyH_take (i := 9) (oi := { dst := some 59, op := Op.fieldAddr 24 (Operand.tmp 7) 2, type := 0, pos := "ref.go:98", after := #[{ on := 0, ground := Ground.phase }, { on := 1, ground := Ground.phase }, { on := 2, ground := Ground.phase }, { on := 3, ground := Ground.phase }, { on := 4, ground := Ground.phase }, { on := 5, ground := Ground.phase }, { on := 6, ground := Ground.phase }, { on := 7, ground := Ground.phase }, { on := 8, ground := Ground.phase }], guard := none }) (v := ?_) rfl (by kernel_rfl) (by kernel_rfl) (by kernel_rfl) (fun _ _ _ h => h) (Or.inl ⟨by rfl, ?_⟩) hHeld ?_
            rotate_left
            · intro wz hSw
              go_simp
              all_goals (with_reducible rfl)
            try simp only [Act.put, List.setIfInBounds_toArray, List.set_cons_zero, List.set_cons_succ]
            refine wpAnyH_ready (rs := [10]) (by kernel_rfl) (by simp) ?_
            refine AllReadyH.cons (o := { dst := none, op := Op.store 22 (Operand.tmp 59) (Operand.tmp 58), type := 0, pos := "ref.go:98", after := #[{ on := 9, ground := Ground.data }, { on := 8, ground := Ground.data }, { on := 8, ground := Ground.chain }, { on := 0, ground := Ground.phase }, { on := 1, ground := Ground.phase }, { on := 2, ground := Ground.phase }, { on := 3, ground := Ground.phase }, { on := 4, ground := Ground.phase }, { on := 5, ground := Ground.phase }, { on := 6, ground := Ground.phase }, { on := 7, ground := Ground.phase }, { on := 8, ground := Ground.phase }], guard := none }) rfl (fun K hK => ?_) AllReadyH.nil
            rw [if_pos (by rfl)]
            show Oper.wp _ _ _ _ K _
            go_simp
            refine hK.out _ _ ⟨hS4.out.bel, hS4.out.bS⟩ (fun _ => ?_)
            clear hK K
            try simp only [Act.put, List.setIfInBounds_toArray, List.set_cons_zero, List.set_cons_succ]
            refine wpAnyH_done (by kernel_rfl) ?_ _
            clear p2 p3 hap
            go_wp2_with fail
            go_roundw
            case rel => exact ⟨k + 1, true, L ++ [x], _, _, _, by omega, by go_num, rfl, by have := hll2.out; simp only [List.length_append, List.length_cons, List.length_nil]; omega, by show _ = _; rw [← hI']; simp [of_decide_eq_false hle'], hS4⟩
            case measure => simp [intOf]; omega
        | false =>
          have s2 := hSr.out.bS.at_ (i := 2) rfl
          have hx0 := hxf.out wr hSr.out.bel
          have p6 := hSr.out.bX.at_ (i := 2) rfl
          have hx1 := hxe.out wr hSr.out.bel
          go_upto_region 10 with fail
          refine wp_region_held_drew (S := fun wz => Below w.heap.size w wz ∧ Blk wz sb 24 (stC s (some ⟨b, off, none⟩) n c)) (by kernel_rfl) (⟨hSr.out.bel.drew, hSr.out.bS.below (Below.refl _ _).drew hSr.out.bS.lt⟩) (fun hHeld => ?_)
          have hSd := Lib.hid (hSr.out.next (Below.refl _ wr).drew)
          clear hSr p6 hx1 s2 hx0
          generalize World.drew _ = W5 at *
          obtain ⟨va4, vn4, vc4, W4, hA⟩ := hSd.out.app hsb.out (x := x) hlx.out (by have := hll2.out; omega)
          have hap := Lib.hid hA.run
          have hS4 := Lib.hid hA.done
          have p2 := hA.cell
          have p3 := hA.froz
          have p4 := hSd.out.bX.at_ (i := 2) rfl
          have hal : Below W5.heap.size W5 (W5.alloc (.cells (logC x.folder xa xn xc).toArray 84)) := (Below.refl _ W5).alloc (Nat.le_refl _) _
          have p7 := (hSd.out.next hal).bX.at_ (i := 2) rfl
          have hH2 : Hid (Below w.heap.size w (W5.alloc (.cells (logC x.folder xa xn xc).toArray 84)) ∧ Blk (W5.alloc (.cells (logC x.folder xa xn xc).toArray 84)) sb 24 (stC s (some ⟨b, off, none⟩) n c)) := ⟨(hSd.out.next hal).bel, (hSd.out.next hal).bS⟩
          have hH3 := Lib.hid hA.mid
          clear hA hal
          refine wpAnyH_take (i := 0) (oi := { dst := some 50, op := Op.fieldAddr 24 (Operand.tmp 7) 2, type := 0, pos := "ref.go:98", after := #[], guard := none }) (v := ?_) rfl (by kernel_rfl) (by kernel_rfl) (by kernel_rfl) (fun _ _ _ h => h) (Or.inl ⟨by rfl, ?_⟩) hHeld ?_
          rotate_left
          · intro wz hSw
            go_simp
            all_goals (with_reducible rfl)
          try simp only [Act.put, List.setIfInBounds_toArray, List.set_cons_zero, List.set_cons_succ]
          refine wpAnyH_take (i := 2) (oi := { dst := some 52, op := Op.fieldAddr 24 (Operand.tmp 3) 2, type := 0, pos := "ref.go:98", after := #[], guard := none }) (v := ?_) rfl (by kernel_rfl) (by kernel_rfl) (by kernel_rfl) (fun _ _ _ h => h) (Or.inl ⟨by rfl, ?_⟩) hHeld ?_
          rotate_left
          · intro wz hSw
            go_simp
            all_goals (with_reducible rfl)
          try simp only [Act.put, List.setIfInBounds_toArray, List.set_cons_zero, List.set_cons_succ]
          refine wpAnyH_take (i := 3) (oi := { dst := some 53, op := Op.load 22 (Operand.tmp 52), type := 22, pos := "ref.go:98", after := #[{ on := 2, ground := Ground.data }], guard := none }) (v := ?_) rfl (by kernel_rfl) (by kernel_rfl) (by kernel_rfl) (fun _ _ _ h => h) (Or.inl ⟨by rfl, ?_⟩) hHeld ?_
          rotate_left
          · intro wz hSw
            have q0 := hSw.2.at_ (i := 2) rfl
            go_simp
            all_goals (with_reducible rfl)
          try simp only [Act.put, List.setIfInBounds_toArray, List.set_cons_zero, List.set_cons_succ]
          refine wpAnyH_take (i := 4) (oi := { dst := some 54, op := Op.move (Operand.tmp 9), type := 3, pos := "ref.go:98", after := #[], guard := none }) (v := ?_) rfl (by kernel_rfl) (by kernel_rfl) (by kernel_rfl) (fun _ _ _ h => h) (Or.inl ⟨by rfl, ?_⟩) hHeld ?_
          rotate_left
          · intro wz hSw
            go_simp
            all_goals (with_reducible rfl)
          try simp only [Act.put, List.setIfInBounds_toArray, List.set_cons_zero, List.set_cons_succ]
          refine wpAnyH_take (i := 5) (oi := { dst := some 55, op := Op.indexAddr 22 (Operand.tmp 53) (Operand.tmp 54), type := 0, pos := "ref.go:98", after := #[{ on := 3, ground := Ground.data }, { on := 4, ground := Ground.data }], guard := none }) (v := ?_) rfl (by kernel_rfl) (by kernel_rfl) (by kernel_rfl) (fun _ _ _ h => h) (Or.inl ⟨by rfl, ?_⟩) hHeld ?_
          rotate_left
          · intro wz hSw
            go_simp
            all_goals (with_reducible rfl)
          try simp only [Act.put, List.setIfInBounds_toArray, List.set_cons_zero, List.set_cons_succ]
          refine wpAnyH_take (i := 6) (oi := { dst := some 56, op := Op.load 84 (Operand.tmp 55), type := 84, pos := "ref.go:98", after := #[{ on := 5, ground := Ground.data }], guard := none }) (v := ?_) rfl (by kernel_rfl) (by kernel_rfl) (by kernel_rfl) (fun _ _ _ h => h) (Or.inl ⟨by rfl, ?_⟩) hHeld ?_
          rotate_left
          · intro wz hSw
            have q1 := hxf.out wz hSw.1
            have q2 := hxe.out wz hSw.1
            go_simp
            all_goals (with_reducible rfl)
          try simp only [Act.put, List.setIfInBounds_toArray, List.set_cons_zero, List.set_cons_succ]
          refine wpAnyH_ready (rs := [1, 7]) (by kernel_rfl) (by simp) ?_
          refine AllReadyH.cons (o := { dst := some 51, op := Op.load 22 (Operand.tmp 50), type := 22, pos := "ref.go:98", after := #[{ on := 0, ground := Ground.data }], guard := none }) rfl (fun K hK => ?_) (AllReadyH.cons (o := { dst := some 57, op := Op.buildSlice 22 1 #[(0, Operand.tmp 56)], type := 22, pos := "ref.go:98", after := #[{ on := 6, ground := Ground.data }], guard := none }) rfl (fun K hK => ?_) AllReadyH.nil)
          case refine_1 =>
            rw [if_pos (by rfl)]
            show Oper.wp _ _ _ _ K _
            go_simp
            refine hK.out _ _ hHeld (fun _ => ?_)
            clear hK K p7
            try simp only [Act.put, List.setIfInBounds_toArray, List.set_cons_zero, List.set_cons_succ]
            refine wpAnyH_ready (rs := [7]) (by kernel_rfl) (by simp) ?_
            refine AllReadyH.cons (o := { dst := some 57, op := Op.buildSlice 22 1 #[(0, Operand.tmp 56)], type := 22, pos := "ref.go:98", after := #[{ on := 6, ground := Ground.data }], guard := none }) rfl (fun K hK => ?_) AllReadyH.nil
            rw [if_pos (by rfl)]
            show Oper.wp _ _ _ _ K _
            refine wp_bslice 22 1 _ rfl #[(0, .agg #[.int .i64 x.folder, .slice xa xn xc])] (by simp only [List.map_toArray, List.map_cons, List.map_nil]; rfl) (log_slice1 _ _ _ _ _) ?_
            refine hK.out _ _ hH2.out (fun _ => ?_)
            clear hK K
            try simp only [Act.put, List.setIfInBounds_toArray, List.set_cons_zero, List.set_cons_succ]
            refine wpAnyH_ready (rs := [8]) (by kernel_rfl) (by simp) ?_
            refine AllReadyH.cons (o := { dst := some 58, op := Op.call { callee := Callee.builtin Builtin.append, args := #[Operand.tmp 51, Operand.tmp 57], argTypes := #[22, 22] }, type := 22, pos := "ref.go:98", after := #[{ on := 1, ground := Ground.data }, { on := 7, ground := Ground.data }], guard := none }) rfl (fun K hK => ?_) AllReadyH.nil
            rw [if_pos (by rfl)]
            show Oper.wp _ _ _ _ K _
            refine wp_append_run rfl _ _ rfl rfl (hap.out _) ?_
            refine hK.out _ _ hH3.out (fun hHeld => ?_)
            clear hK K
            try simp only [Act.put, List.setIfInBounds_toArray, List.set_cons_zero, List.set_cons_succ]
            refine wpAnyH_take (i := 9) (oi := { dst := some 59, op := Op.fieldAddr 24 (Operand.tmp 7) 2, type := 0, pos := "ref.go:98", after := #[{ on := 0, ground := Ground.phase }, { on := 1, ground := Ground.phase }, { on := 2, ground := Ground.phase }, { on := 3, ground := Ground.phase }, { on := 4, ground := Ground.phase }, { on := 5, ground := Ground.phase }, { on := 6, ground := Ground.phase }, { on := 7, ground := Ground.phase }, { on := 8, ground := Ground.phase }], guard := none }) (v := ?_) rfl (by kernel_rfl) (by kernel_rfl) (by kernel_rfl) (fun _ _ _ h => h) (Or.inl ⟨by rfl, ?_⟩) hHeld ?_
            rotate_left
            · intro wz hSw
              go_simp
              all_goals (with_reducible rfl)
            try simp only [Act.put, List.setIfInBounds_toArray, List.set_cons_zero, List.set_cons_succ]
            refine wpAnyH_ready (rs := [10]) (by kernel_rfl) (by simp) ?_
            refine AllReadyH.cons (o := { dst := none, op := Op.store 22 (Operand.tmp 59) (Operand.tmp 58), type := 0, pos := "ref.go:98", after := #[{ on := 9, ground := Ground.data }, { on := 8, ground := Ground.data }, { on := 8, ground := Ground.chain }, { on := 0, ground := Ground.phase }, { on := 1, ground := Ground.phase }, { on := 2, ground := Ground.phase }, { on := 3, ground := Ground.phase }, { on := 4, ground := Ground.phase }, { on := 5, ground := Ground.phase }, { on := 6, ground := Ground.phase }, { on := 7, ground := Ground.phase }, { on := 8, ground := Ground.phase }], guard := none }) rfl (fun K hK => ?_) AllReadyH.nil
            rw [if_pos (by rfl)]
            show Oper.wp _ _ _ _ K _
            go_simp
            refine hK.out _ _ ⟨hS4.out.bel, hS4.out.bS⟩ (fun _ => ?_)
            clear hK K
            try simp only [Act.put, List.setIfInBounds_toArray, List.set_cons_zero, List.set_cons_succ]
            refine wpAnyH_done (by kernel_rfl) ?_ _
            clear p2 p3 hap
            go_wp2_with fail
            go_roundw
            case rel => exact ⟨k + 1, false, L ++ [x], _, _, _, by omega, by go_num, rfl, by have := hll2.out; simp only [List.length_append, List.length_cons, List.length_nil]; omega, by show _ = _; rw [← hI']; simp [of_decide_eq_false hle'], hS4⟩
            case measure => simp [intOf]; omega
          case refine_2 =>
            rw [if_pos (by rfl)]
            show Oper.wp _ _ _ _ K _
            refine wp_bslice 22 1 _ rfl #[(0, .agg #[.int .i64 x.folder, .slice xa xn xc])] (by simp only [List.map_toArray, List.map_cons, List.map_nil]; rfl) (log_slice1 _ _ _ _ _) ?_
            refine hK.out _ _ hH2.out (fun _ => ?_)
            clear hK K p4
            try simp only [Act.put, List.setIfInBounds_toArray, List.set_cons_zero, List.set_cons_succ]
            refine wpAnyH_ready (rs := [1]) (by kernel_rfl) (by simp) ?_
            refine AllReadyH.cons (o := { dst := some 51, op := Op.load 22 (Operand.tmp 50), type := 22, pos := "ref.go:98", after := #[{ on := 0, ground := Ground.data }], guard := none }) rfl (fun K hK => ?_) AllReadyH.nil
            rw [if_pos (by rfl)]
            show Oper.wp _ _ _ _ K _
            go_simp
            refine hK.out _ _ hH2.out (fun _ => ?_)
            clear hK K
            try simp only [Act.put, List.setIfInBounds_toArray, List.set_cons_zero, List.set_cons_succ]
            refine wpAnyH_ready (rs := [8]) (by kernel_rfl) (by simp) ?_
            refine AllReadyH.cons (o := { dst := some 58, op := Op.call { callee := Callee.builtin Builtin.append, args := #[Operand.tmp 51, Operand.tmp 57], argTypes := #[22, 22] }, type := 22, pos := "ref.go:98", after := #[{ on := 1, ground := Ground.data }, { on := 7, ground := Ground.data }], guard := none }) rfl (fun K hK => ?_) AllReadyH.nil
            rw [if_pos (by rfl)]
            show Oper.wp _ _ _ _ K _
            refine wp_append_run rfl _ _ rfl rfl (hap.out _) ?_
            refine hK.out _ _ hH3.out (fun hHeld => ?_)
            clear hK K
            try simp only [Act.put, List.setIfInBounds_toArray, List.set_cons_zero, List.set_cons_succ]
            refine wpAnyH_take (i := 9) (oi := { dst := some 59, op := Op.fieldAddr 24 (Operand.tmp 7) 2, type := 0, pos := "ref.go:98", after := #[{ on := 0, ground := Ground.phase }, { on := 1, ground := Ground.phase }, { on := 2, ground := Ground.phase }, { on := 3, ground := Ground.phase }, { on := 4, ground := Ground.phase }, { on := 5, ground := Ground.phase }, { on := 6, ground := Ground.phase }, { on := 7, ground := Ground.phase }, { on := 8, ground := Ground.phase }], guard := none }) (v := ?_) rfl (by kernel_rfl) (by kernel_rfl) (by kernel_rfl) (fun _ _ _ h => h) (Or.inl ⟨by rfl, ?_⟩) hHeld ?_
            rotate_left
            · intro wz hSw
              go_simp
              all_goals (with_reducible rfl)
            try simp only [Act.put, List.setIfInBounds_toArray, List.set_cons_zero, List.set_cons_succ]
            refine wpAnyH_ready (rs := [10]) (by kernel_rfl) (by simp) ?_
            refine AllReadyH.cons (o := { dst := none, op := Op.store 22 (Operand.tmp 59) (Operand.tmp 58), type := 0, pos := "ref.go:98", after := #[{ on := 9, ground := Ground.data }, { on := 8, ground := Ground.data }, { on := 8, ground := Ground.chain }, { on := 0, ground := Ground.phase }, { on := 1, ground := Ground.phase }, { on := 2, ground := Ground.phase }, { on := 3, ground := Ground.phase }, { on := 4, ground := Ground.phase }, { on := 5, ground := Ground.phase }, { on := 6, ground := Ground.phase }, { on := 7, ground := Ground.phase }, { on := 8, ground := Ground.phase }], guard := none }) rfl (fun K hK => ?_) AllReadyH.nil
            rw [if_pos (by rfl)]
            show Oper.wp _ _ _ _ K _
            go_simp
            refine hK.out _ _ ⟨hS4.out.bel, hS4.out.bS⟩ (fun _ => ?_)
            clear hK K
            try simp only [Act.put, List.setIfInBounds_toArray, List.set_cons_zero, List.set_cons_succ]
            refine wpAnyH_done (by kernel_rfl) ?_ _
            clear p2 p3 hap
            go_wp2_with fail
            go_roundw
            case rel => exact ⟨k + 1, false, L ++ [x], _, _, _, by omega, by go_num, rfl, by have := hll2.out; simp only [List.length_append, List.length_cons, List.length_nil]; omega, by show _ = _; rw [← hI']; simp [of_decide_eq_false hle'], hS4⟩
            case measure => simp [intOf]; omega
    · obtain rfl : k = n := by omega
      have hI' := hI.out
      rw [List.drop_eq_nil_of_le (by omega)] at hI'
      clear hI
      have s2 := hSr.out.bS.at_ (i := 2) rfl
      cases d with
      | true =>
        rw [Sto.withGo, List.append_nil] at hI'
        subst hI'
        obtain ⟨a', c', hvv, hL⟩ := hSr.out.ls hsb.out (by omega)
        have hL' := Lib.hid hL
        rw [hvv] at hSr
        clear hvv
        have x0 := hSr.out.bX.at_ (i := 0) rfl
        have x1 := hSr.out.bX.at_ (i := 1) rfl
        have x2 := hSr.out.bX.at_ (i := 2) rfl
        have f0 := hSr.out.bR.frozen 0
        have f1 := hSr.out.bR.frozen 1
        have f2 := hSr.out.bR.frozen 2
        have r0 := hSr.out.bR.at_ (i := 0) rfl
        have r1 := hSr.out.bR.at_ (i := 1) rfl
        have r2 := hSr.out.bR.at_ (i := 2) rfl
        obtain ⟨m, hm⟩ : ∃ m, Hid (L.length = m) := ⟨_, rfl⟩
        rw [hm.out] at hfin hL' x2
        have hbR := Lib.hid hSr.out.bR
        have hbl := Lib.hid hSr.out.bel
        have hle : w.heap.size ≤ sb + 1 := by have := hsb.out; omega
        clear hL hSr
        go_wp2_with fail
        refine store_ret (copied_set hbR.out _ _ _) rfl rfl rfl ?_
        exact hfin.out _ _ _ ((hL'.out.keep (copied_keeps _ _ _ _ _)).imp (fun _ _ h => h.1)) (((hbl.out.setCell (p := ⟨sb + 1, 0, none⟩) hle _).setCell (p := ⟨sb + 1, 1, none⟩) hle _).setCell (p := ⟨sb + 1, 2, none⟩) hle _)
      | false =>
        rw [Sto.withGo] at hI'
        have hll2 : Hid (L.length ≤ 2 * k) := hll
        obtain ⟨va2, vn2, vc2, W2, hA⟩ := hSr.out.app hsb.out (x := ⟨f, es⟩) hlv.out (by omega)
        have hap := Lib.hid hA.run
        have hS2 := Lib.hid hA.done
        have p2 := hA.cell
        have p3 := hA.froz
        have p4 := hSr.out.bX.at_ (i := 2) rfl
        clear hA
        go_upto_region 13 with (first
          | (refine wpList_bslice (by rfl) 22 1 _ rfl #[(0, .agg #[.int .i64 f, .slice ea en ec])] (by simp only [List.map_toArray, List.map_cons, List.map_nil]; rfl) (log_slice1 _ _ _ _ _) ?_)
          | (at_builtin; refine Lib.wpList_append_run _ rfl _ _ _ _ rfl _ _ rfl rfl _ _ (hap.out _) ?_))
        clear hSr hap p2 p3 p4 s2
        obtain ⟨W3, hW3⟩ : ∃ W, Hid (W2.setCell ⟨sb + 1 + 1, 2, none⟩ (.slice va2 vn2 vc2) = W) := ⟨_, rfl⟩
        rw [hW3.out] at hS2 ⊢
        clear hW3
        subst hI'
        obtain ⟨a', c', hvv, hL⟩ := hS2.out.ls hsb.out (by rw [List.length_append]; simp only [List.length_cons, List.length_nil]; omega)
        have hL' := Lib.hid hL
        rw [hvv] at hS2
        clear hvv
        have x0 := hS2.out.bX.at_ (i := 0) rfl
        have x1 := hS2.out.bX.at_ (i := 1) rfl
        have x2 := hS2.out.bX.at_ (i := 2) rfl
        have f0 := hS2.out.bR.frozen 0
        have f1 := hS2.out.bR.frozen 1
        have f2 := hS2.out.bR.frozen 2
        have r0 := hS2.out.bR.at_ (i := 0) rfl
        have r1 := hS2.out.bR.at_ (i := 1) rfl
        have r2 := hS2.out.bR.at_ (i := 2) rfl
        obtain ⟨m, hm⟩ : ∃ m, Hid ((L ++ [(⟨f, es⟩ : Lg)]).length = m) := ⟨_, rfl⟩
        rw [hm.out] at hfin hL' x2
        have hbR := Lib.hid hS2.out.bR
        have hbl := Lib.hid hS2.out.bel
        have hle : w.heap.size ≤ sb + 1 := by have := hsb.out; omega
        clear hL hS2
        go_wp2_with fail
        refine store_ret (copied_set hbR.out _ _ _) rfl rfl rfl ?_
        exact hfin.out _ _ _ ((hL'.out.keep (copied_keeps _ _ _ _ _)).imp (fun _ _ h => h.1)) (((hbl.out.setCell (p := ⟨sb + 1, 0, none⟩) hle _).setCell (p := ⟨sb + 1, 1, none⟩) hle _).setCell (p := ⟨sb + 1, 2, none⟩) hle _)
end Go.Proofs.YtlpgjdlkjahdgaaGreatDoor
