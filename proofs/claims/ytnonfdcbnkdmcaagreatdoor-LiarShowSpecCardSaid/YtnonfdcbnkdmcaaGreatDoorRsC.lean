/- the reference 30: Entries, check, with -/
import Derived.Test.YtnonfdcbnkdmcaaGreatDoorRsB
import Derived.Maps.AppendAt
import Derived.StillTailTactics
namespace Go
variable {P : Program}
end Go
namespace Go.Proofs.YtnonfdcbnkdmcaaGreatDoor
open Go.RowKit Go.Mem
open Go.Sto (Ent Lg St)

def EntsPostR (K : Nat → Prop) (l : List Ent) (w : World) (e : Ending) (w' : World) : Prop := ∃ a c, e = .returned (.slice a l.length c) ∧ ES K w' a l.length c l ∧ Below w.heap.size w w'

set_option maxRecDepth 20000 in
set_option maxHeartbeats 1000000 in
theorem r30ents_any (K : Nat → Prop) (a : Option Addr) (n c : Nat) (s : St) (f : Int) (w : World) (H : SV K w a n c s) :
    Calls Tryz.prog 133 #[.agg #[.int .i64 s.id, .int .i64 s.priv, .slice a n c], .int .i64 f] w (EntsPostR K (Sto.ents s f) w) := by
  have hlen := H.ls.rs.len
  have hbd := H.ls.bd
  have n63 : (n : Int) ≤ 100000 := by omega
  obtain ⟨sb, hsb⟩ : ∃ sb, Hid (w.heap.size = sb) := ⟨_, rfl⟩
  obtain ⟨W0, hW0⟩ : ∃ W, Hid (w.alloc (.cells #[.int .i64 s.id, .int .i64 s.priv, .slice a n c] 24) = W) := ⟨_, rfl⟩
  have hB : Hid (Blk W0 sb 24 (stC s a n c)) := by rw [← hW0.out, ← hsb.out]; exact Blk.new w _ (stC s a n c)
  have hb : Hid (Below w.heap.size w W0) := by rw [← hW0.out]; exact (Below.refl _ w).alloc (Nat.le_refl _) _
  have H' := Lib.hid (H.below hb.out)
  clear H
  obtain ⟨X, hX⟩ : ∃ X, X = EntsPostR K (Sto.ents s f) w := ⟨_, rfl⟩
  have hfin : Hid (∀ l ea en ec, Sto.entsL f s.logs = l → ES K W0 ea en ec l → X (.returned (.slice ea en ec)) W0) := fun l ea en ec h1 h2 => by
    have hen := h2.rs.len
    subst hen
    rw [hX]; unfold Sto.ents; rw [h1]; exact ⟨ea, ec, rfl, h2, hb.out⟩
  rw [← hX]
  clear hX
  have s2 : W0.cell? ⟨sb, 2, none⟩ = some (.slice a n c) := hB.out.at_ (i := 2) rfl
  clear hB hb
  go_enter Tryz.func133, Tryz.ntmps133
  go_upto_region 1 with (first | (rw [hW0.out, hsb.out]) | (rw [hW0.out]))
  clear hW0
  go_wp2_with fail
  go_loop [5] (fun i => ∃ k : Nat, k ≤ n ∧ i = .int .i64 (k : Int) ∧ Hid (Sto.entsL f s.logs = Sto.entsL f (s.logs.drop k))) (fun i => n - (intOf i).toNat)
  case atStart => exact ⟨0, Nat.zero_le _, rfl, rfl⟩
  case round =>
    obtain ⟨k, hk, rfl, hl⟩ := hrel
    by_cases hlt : k < n
    · have hkl : k < s.logs.length := by omega
      obtain ⟨x, hx⟩ : ∃ x, s.logs[k]? = some x := ⟨_, List.getElem?_eq_getElem hkl⟩
      have hl' := hl.out
      rw [List.drop_eq_getElem_cons hkl, (List.getElem?_eq_some_iff.1 hx).2, Sto.entsL] at hl'
      obtain ⟨b, off, ea, en, ec, rfl, hbl, _, hfo, hes, c0, c1⟩ := H'.out.ls.cells hx
      have k0 : (0 : Int) ≤ (k : Int) := by omega
      have k1 : (k : Int) < (n : Int) := by omega
      by_cases hxf : x.folder = f
      · rw [if_pos hxf] at hl'
        have hend := Lib.hid (hfin.out _ _ _ _ hl' hes)
        have q1 : (x.folder == f) = true := by simpa using hxf
        clear hl' hl hxf hx hfin hes
        go_wp2_with fail
        exact hend.out
      · rw [if_neg hxf] at hl'
        have hl2 := Lib.hid hl'
        have q1 : (x.folder == f) = false := by simpa using hxf
        clear hl' hl hxf hx hes
        go_wp2_with fail
        go_round
        case rel => exact ⟨k + 1, by omega, by go_num, hl2⟩
        case measure => simp [intOf]; omega
    · obtain rfl : k = n := by omega
      have hl' := hl.out
      rw [List.drop_eq_nil_of_le (by omega), Sto.entsL] at hl'
      have hend := Lib.hid (hfin.out _ _ _ _ hl' (ES.nil0 K W0))
      clear hl' hl hfin
      go_wp2_with fail
      exact hend.out

set_option maxRecDepth 20000 in
set_option maxHeartbeats 1000000 in
theorem r30open_any (K : Nat → Prop) (a : Option Addr) (n c : Nat) (s : St) (f : Int) (w : World) (H : SV K w a n c s) :
    Calls Tryz.prog 87 #[.agg #[.int .i64 s.id, .int .i64 s.priv, .slice a n c], .int .i64 f] w (RetI (Sto.openE s f) w) := by
  obtain ⟨sb, hsb⟩ : ∃ sb, Hid (w.heap.size = sb) := ⟨_, rfl⟩
  obtain ⟨W0, hW0⟩ : ∃ W, Hid (w.alloc (.cells #[.int .i64 s.id, .int .i64 s.priv, .slice a n c] 24) = W) := ⟨_, rfl⟩
  have hB : Hid (Blk W0 sb 24 (stC s a n c)) := by rw [← hW0.out, ← hsb.out]; exact Blk.new w _ (stC s a n c)
  have hb : Hid (Below w.heap.size w W0) := by rw [← hW0.out]; exact (Below.refl _ w).alloc (Nat.le_refl _) _
  have hck := Lib.hid (r30check_any K a n c s W0 (H.below hb.out))
  clear H
  obtain ⟨X, hX⟩ : ∃ X, X = RetI (Sto.openE s f) w := ⟨_, rfl⟩
  have hfin : Hid (∀ q W, Sto.openE s f = q → Below W0.heap.size W0 W → X (.returned (.int .i64 q)) W) := fun q W h1 h2 => by rw [hX, h1]; exact ⟨rfl, hb.out.trans (h2.mono hb.out.size)⟩
  rw [← hX]
  clear hX
  have s0 : W0.cell? ⟨sb, 0, none⟩ = some (.int .i64 s.id) := hB.out.at_ (i := 0) rfl
  have s1 : W0.cell? ⟨sb, 1, none⟩ = some (.int .i64 s.priv) := hB.out.at_ (i := 1) rfl
  have s2 : W0.cell? ⟨sb, 2, none⟩ = some (.slice a n c) := hB.out.at_ (i := 2) rfl
  clear hB hb
  obtain ⟨q, hq⟩ : ∃ q, Hid (Sto.chkS s = q) := ⟨_, rfl⟩
  rw [hq.out] at hck
  have hq3 : q = 0 ∨ q = 300 := by rw [← hq.out]; unfold Sto.chkS; split <;> simp
  go_enter Tryz.func87, Tryz.ntmps87
  go_upto_region 1 with fail
  rw [hsb.out]
  generalize hWq : w.alloc _ = Wq
  obtain rfl : W0 = Wq := by rw [← hWq]; exact hW0.out.symm
  clear hWq hW0
  go_wp2_with fail
  refine hck.out.mono ?_
  rintro e w1 ⟨rfl, hb1⟩
  rcases hq3 with rfl | rfl
  · by_cases h0 : f < 0
    · have hend := Lib.hid (hfin.out 1 w1 (by unfold Sto.openE Sto.folderB; rw [if_pos hq.out, decide_eq_false (by omega)]; rfl) hb1)
      have q0 : decide (f < 0) = true := decide_eq_true h0
      clear hfin hb1 hck
      go_wp2_with fail
      exact hend.out
    · have q0 : decide (f < 0) = false := decide_eq_false h0
      by_cases h1 : 16 ≤ f
      · have hend := Lib.hid (hfin.out 1 w1 (by unfold Sto.openE Sto.folderB; rw [if_pos hq.out, decide_eq_false (by omega)]; rfl) hb1)
        have q1 : decide (16 ≤ f) = true := decide_eq_true h1
        clear hfin hb1 hck
        go_wp2_with fail
        exact hend.out
      · have hend := Lib.hid (hfin.out 0 w1 (by unfold Sto.openE Sto.folderB; rw [if_pos hq.out, decide_eq_true (by omega)]; rfl) hb1)
        have q1 : decide (16 ≤ f) = false := decide_eq_false h1
        clear hfin hb1 hck
        go_wp2_with fail
        exact hend.out
  · have hend := Lib.hid (hfin.out 300 w1 (by unfold Sto.openE; rw [if_neg (by rw [hq.out]; decide)]) hb1)
    clear hfin hb1 hck
    go_wp2_with fail
    exact hend.out

/-- an owned row of logs; what they point to is as it was in w0. -/
def OwnLg (K : Nat → Prop) (w0 : World) (B : Nat) (W : World) (v : Value) (l : List Lg) : Prop := ∃ rows, W.ownsRow B 121 2 v l.length rows.flatten ∧ RowsOf 2 (LV K w0) l rows
theorem append_lg {K : Nat → Prop} {w0 W : World} {B : Nat} {v : Value} {l : List Lg} {x : Lg} {r : List Value} (ho : OwnLg K w0 B W v l) (hB : B ≤ W.heap.size) (hr : LV K w0 x r) (hn : l.length ≤ 100000) :
    ∃ v' W', (∀ ty, (Builtin.append_ #[22, 22] ty #[v, .slice (some ⟨W.heap.size, 0, none⟩) 1 1]).run Tryz.prog (W.alloc (.cells r.toArray 121)) = .ok v' W') ∧ OwnLg K w0 B W' v' (l ++ [x]) ∧ W.grownBy W' v.ownBlock ∧ (∀ g, v.ownBlock = some g → B ≤ g) := by
  obtain ⟨rows, hown0, hR⟩ := ho
  obtain ⟨i0, hi, hz0, hz1, hz2⟩ := info_parts infoL
  have hown := World.ownsRow.alloc hown0 (.cells r.toArray 121)
  have hBk := Blk.new W 121 r
  have hrl : r.length = 2 := by obtain ⟨_, a, n, c, rfl, _⟩ := hr; rfl
  obtain ⟨v', w', hrun, h2, h3, _, _⟩ := run_append_own_at (P := Tryz.prog) (w := W.alloc (.cells r.toArray 121)) B 22 0 121 i0 _ 2 32 Tryz.underlying22 hi hz0 hz1 hz2 rfl (by omega) v l.length rows.flatten hown ⟨W.heap.size, 0, none⟩ 1 1 r (by omega) (fun j u hj => by
    rw [Addr.add_lit, Nat.zero_add]
    exact hBk.at_ hj) (hr.one) (by unfold maxLen; omega) (by omega) (by simp; omega)
  refine ⟨v', w', fun ty => by rw [← hrun]; rfl, ⟨rows ++ [r], ?_, hR.append (RowsOf.one hr hrl)⟩, ?_, fun g e => (World.ownsRow.lt hown0 g e).1⟩
  · rw [List.flatten_append, List.length_append]
    simpa using h2
  · have hal : W.grownBy (W.alloc (.cells r.toArray 121)) v.ownBlock := grown_of_below ((Below.refl _ W).alloc (Nat.le_refl _) _) _
    exact hal.trans h3

/-- the boxes of with. -/
structure WiW (K : Nat → Prop) (w : World) (sb : Nat) (s : St) (a : Option Addr) (n c : Nat) (v : Value) (L : List Lg) (W : World) : Prop where
  bS : Blk W sb 24 (stC s a n c)
  bR : Blk W (sb + 1) 24 [.int .i64 0, .int .i64 0, .slice none 0 0]
  bX : Blk W (sb + 1 + 1) 24 [.int .i64 s.id, .int .i64 s.priv, v]
  own : OwnLg K w (sb + 1 + 1 + 1) W v L
  bel : Below w.heap.size w W
theorem OwnLg.below {K : Nat → Prop} {w0 W W' : World} {B : Nat} {v : Value} {l : List Lg} (h : OwnLg K w0 B W v l) (hb : Below W.heap.size W W') : OwnLg K w0 B W' v l := by
  obtain ⟨rows, ho, hR⟩ := h
  exact ⟨rows, Sl.owns_below ho hb (Nat.le_refl _), hR⟩
theorem WiW.next {K : Nat → Prop} {w W W2 : World} {sb : Nat} {s : St} {a : Option Addr} {n c : Nat} {v : Value} {L : List Lg} (h : WiW K w sb s a n c v L W) (hb : Below W.heap.size W W2) : WiW K w sb s a n c v L W2 :=
  ⟨h.bS.below hb h.bS.lt, h.bR.below hb h.bR.lt, h.bX.below hb h.bX.lt, h.own.below hb, h.bel.trans (hb.mono h.bel.size)⟩
/-- one more log: the appended row, and the world behind the store. -/
structure WiA (K : Nat → Prop) (w : World) (sb : Nat) (s : St) (a : Option Addr) (n c : Nat) (v : Value) (L : List Lg) (r : List Value) (x : Lg) (W : World) (v' : Value) (W' : World) : Prop where
  run : ∀ ty, (Builtin.append_ #[22, 22] ty #[v, .slice (some ⟨W.heap.size, 0, none⟩) 1 1]).run Tryz.prog (W.alloc (.cells r.toArray 121)) = .ok v' W'
  cell : W'.cell? ⟨sb + 1 + 1, 2, none⟩ = some v
  froz : W'.frozen? ⟨sb + 1 + 1, 2, none⟩ = false
  mid : Below w.heap.size w W' ∧ Blk W' sb 24 (stC s a n c)
  done : WiW K w sb s a n c v' (L ++ [x]) (W'.setCell ⟨sb + 1 + 1, 2, none⟩ v')
theorem WiW.app {K : Nat → Prop} {w W : World} {sb : Nat} {s : St} {a : Option Addr} {n c : Nat} {v : Value} {L : List Lg} (h : WiW K w sb s a n c v L W) (hsb : w.heap.size = sb) {x : Lg} {r : List Value} (hr : LV K w x r) (hn : L.length ≤ 100000) :
    ∃ va vn vc W', WiA K w sb s a n c v L r x W (.slice va vn vc) W' := by
  have hlt := h.bX.lt
  obtain ⟨v', W', hrun, ho, hg, hB⟩ := append_lg h.own (by omega) hr hn
  have ne : ∀ b, b < sb + 1 + 1 + 1 → some b ≠ v.ownBlock := fun b hb e => by have := hB b e.symm; omega
  have hX := h.bX.grown hg (ne _ (by omega))
  have hb' : Below w.heap.size w W' := h.bel.grown hg h.bel.size (fun g e => by have := hB g e; omega)
  obtain ⟨va, vc, hv, _, _⟩ : ∃ a c, v' = .slice a (L ++ [x]).length c ∧ True ∧ True := by
    obtain ⟨rows, ho, hR⟩ := ho
    obtain ⟨a', c', e, _, _⟩ := Sl.of_owns ho
    exact ⟨a', c', e, trivial, trivial⟩
  rw [hv] at hrun ho
  refine ⟨va, _, vc, W', hrun, hX.at_ (i := 2) rfl, hX.frozen 2, ⟨hb', h.bS.grown hg (ne _ (by omega))⟩, ⟨?_, ?_, ?_, ?_, hb'.setCell (p := ⟨sb + 1 + 1, 2, none⟩) (by show w.heap.size ≤ sb + 1 + 1; omega) _⟩⟩
  · exact (h.bS.grown hg (ne _ (by omega))).far (by show sb ≠ sb + 1 + 1; omega) _
  · exact (h.bR.grown hg (ne _ (by omega))).far (by show sb + 1 ≠ sb + 1 + 1; omega) _
  · exact hX.set 2 _
  · obtain ⟨rows, ho, hR⟩ := ho
    refine ⟨rows, ho.kept (grown_set (World.grownBy.refl W' _) (.inl rfl) _) ?_, hR⟩
    rcases ho.2 with ⟨e, _⟩ | ⟨g, cap, cur, e, hg, _⟩
    · rw [e]; simp [Value.ownBlock]
    · rw [e]; simp only [Value.ownBlock, ne_eq, Option.some.injEq]; omega
theorem WiW.ls {K : Nat → Prop} {w W : World} {sb : Nat} {s : St} {a : Option Addr} {n c : Nat} {v : Value} {L : List Lg} (h : WiW K w sb s a n c v L W) (hsb : w.heap.size = sb) (hn : L.length ≤ 100000) : ∃ a' c', v = .slice a' L.length c' ∧ LS (fun b => (K b ∨ w.heap.size ≤ b) ∧ b ≠ sb + 1) W a' L.length c' L := by
  obtain ⟨rows, ho, hR⟩ := h.own
  obtain ⟨a', c', rfl, hr, h3⟩ := Sl.of_owns ho
  exact ⟨a', c', rfl, ⟨rfl, fun _ ad e => ⟨.inr (by have := (h3 ad e).1; omega), by have := (h3 ad e).1; omega⟩, rows, hr, hR.imp fun _ _ h2 => (h2.imp (fun b hb k => ⟨.inl k, by omega⟩)).keep (Keeps.below h.bel)⟩, hn⟩
end Go.Proofs.YtnonfdcbnkdmcaaGreatDoor

