/- owned rows of entries whose data lie in blocks of a given kind; the reference 30: Fetch, with where the entries lie -/
import Derived.Test.YtnonfdcbnkdmcaaGreatDoorLfA
namespace Go.Proofs.YtnonfdcbnkdmcaaGreatDoor
open Go.RowKit Go.Mem Go.Shelf
open Go.Sto (Ent St Rul forkE lieAt)

/-- an owned row of entries; it and their data lie in blocks of K, no data in the row's. -/
def OwnK (K : Nat → Prop) (W : World) (v : Value) (l : List Ent) : Prop := ∃ rows, W.ownsRow 0 75 35 v l.length rows.flatten ∧ RowsOf 35 (EV (fun b => K b ∧ v.ownBlock ≠ some b) W) l rows ∧ ∀ b, v.ownBlock = some b → K b
theorem ownK_nil (K : Nat → Prop) (W : World) : OwnK K W (.slice none 0 0) [] := ⟨[], World.ownsRow_nil W _ _ _, RowsOf.nil, fun _ e => by cases e⟩
theorem ev_nextK {K : Nat → Prop} {W W' : World} {v v' : Value} (hg : W.grownBy W' v.ownBlock) (hv : Nxt v v' W) {e : Ent} {r : List Value} (h : EV (fun b => K b ∧ v.ownBlock ≠ some b) W e r) : EV (fun b => K b ∧ v'.ownBlock ≠ some b) W' e r := by
  obtain ⟨h1, a, n, c, q, hk⟩ := h
  refine ⟨h1, a, n, c, q, ?_⟩
  have k1 := BK.imp (K' := fun b => (K b ∧ v.ownBlock ≠ some b) ∧ b < W.heap.size) hk (fun b hb h => ⟨h, hb⟩)
  have k3 := k1.keep (w' := W') ⟨hg.size, fun b hb k => hg.block b hb (fun e => k.1.2 e.symm)⟩
  refine k3.imp fun b _ k => ⟨k.1.1, fun e => ?_⟩
  rcases hv with h5 | h5 | ⟨x, h5, h6⟩
  · exact k.1.2 (by rw [← h5]; exact e)
  · rw [h5] at e; cases e
  · rw [h5] at e
    have h7 := k.2
    simp only [Option.some.injEq] at e
    omega
theorem RowsOf.evsK {K : Nat → Prop} {W W' : World} {v v' : Value} {l : List Ent} {rows : List (List Value)} (hR : RowsOf 35 (EV (fun b => K b ∧ v.ownBlock ≠ some b) W) l rows) (hg : W.grownBy W' v.ownBlock) (hv : Nxt v v' W) : RowsOf 35 (EV (fun b => K b ∧ v'.ownBlock ≠ some b) W') l rows := hR.imp fun _ _ h => ev_nextK hg hv h
theorem OwnK.take {K : Nat → Prop} {W : World} {v : Value} {l : List Ent} (h : OwnK K W v l) : ∃ a c, v = .slice a l.length c ∧ l.length ≤ c ∧ c ≤ 9223372036854775807 ∧ (a = none → c = 0) ∧ ∀ m, m ≤ l.length → OwnK K W (.slice a m c) (l.take m) ∧ (Value.slice a m c).ownBlock = v.ownBlock := by
  obtain ⟨rows, hown, hR, hKb⟩ := h
  by_cases h0 : 0 < l.length
  · obtain ⟨g, cap, rest, rfl, hBg, hgl, hg, hnc, hcm, hl⟩ := Sl.owns_row hown h0
    refine ⟨_, cap, rfl, hnc, by unfold maxLen at hcm; omega, (fun e => by cases e), fun m hm => ⟨⟨rows.take m, ?_, hR.take m, hKb⟩, rfl⟩⟩
    have hx := hown.1
    have hml : (l.take m).length = m := by rw [List.length_take]; omega
    rw [hml]
    refine Sl.owns_mk (rest := (rows.drop m).flatten ++ rest) hBg (by rw [← List.append_assoc, ← List.flatten_append, List.take_append_drop]; exact hg) (by rw [flat_len (hR.take m).size, List.length_take, hR.len]; omega) (by omega) hcm ?_
    rw [List.length_append, ← Nat.add_assoc, ← List.length_append, ← List.flatten_append, List.take_append_drop]
    exact hl
  · obtain ⟨a, c, rfl, hr, _⟩ := Sl.of_owns hown
    have h1 : l = [] := List.eq_nil_of_length_eq_zero (by omega)
    subst h1
    refine ⟨a, c, rfl, hr.le, by have := hr.max; unfold maxLen at this; omega, fun e => (hr.nil e).2, fun m hm => ?_⟩
    obtain rfl : m = 0 := by simpa using hm
    exact ⟨⟨rows, hown, hR, hKb⟩, rfl⟩
theorem OwnK.at {K : Nat → Prop} {W : World} {v : Value} {l : List Ent} {i : Nat} {e : Ent} (h : OwnK K W v l) (hi : l[i]? = some e) :
    ∃ g cap r, v = .slice (some ⟨g, 0, none⟩) l.length cap ∧ 0 ≤ g ∧ g < W.heap.size ∧ l.length ≤ cap ∧ cap ≤ 9223372036854775807 ∧ EV (fun b => K b ∧ v.ownBlock ≠ some b) W e r ∧ W.rangeAt g (i * 35) r := by
  obtain ⟨rows, hown, hR, hKb⟩ := h
  have hil := (List.getElem?_eq_some_iff.1 hi).1
  obtain ⟨g, cap, rest, rfl, hBg, hgl, hg, hnc, hcm, hl⟩ := Sl.owns_row hown (by omega)
  obtain ⟨r, hr, hev, hrl, hf⟩ := hR.get hi
  refine ⟨g, cap, r, rfl, hBg, hgl, hnc, by unfold maxLen at hcm; omega, hev, fun j u hj => ?_⟩
  rw [cell_of_row W g _ _ 75 (0, 0) hg]
  have h2 := hf j u hj
  have h3 := (List.getElem?_eq_some_iff.1 h2).1
  simpa [List.getElem?_append_left h3] using h2
theorem OwnK.put {K : Nat → Prop} {W : World} {v : Value} {l : List Ent} {i : Nat} {e e' : Ent} {r' : List Value} (h : OwnK K W v l) (hi : l[i]? = some e) (hr : EV (fun b => K b ∧ v.ownBlock ≠ some b) W e' r') :
    ∃ g cap, v = .slice (some ⟨g, 0, none⟩) l.length cap ∧ W.there g (i * 35) 35 ∧ OwnK K (W.setCells g (i * 35) r') v (l.set i e') ∧ W.grownBy (W.setCells g (i * 35) r') (some g) := by
  obtain ⟨rows, hown, hR, hKb⟩ := h
  have hil := (List.getElem?_eq_some_iff.1 hi).1
  obtain ⟨g, cap, rest, rfl, hBg, hgl, hg, hnc, hcm, hl⟩ := Sl.owns_row hown (by omega)
  have hx := hown.1
  have hrl := hR.len
  have hr35 := hr.len
  have hpre : (rows.take i).flatten.length = i * 35 := by rw [flat_len (hR.take i).size, List.length_take]; omega
  obtain ⟨r, hri, _, hrl2, _⟩ := hR.get hi
  have hsp : rows.flatten = (rows.take i).flatten ++ r ++ (rows.drop (i + 1)).flatten := by
    have h1 : rows = rows.take i ++ (r :: rows.drop (i + 1)) := by
      have h2 := List.drop_eq_getElem_cons (l := rows) (i := i) (by omega)
      rw [(List.getElem?_eq_some_iff.1 hri).2] at h2
      rw [← h2, List.take_append_drop]
    have h3 := congrArg List.flatten h1
    rw [List.flatten_append, List.flatten_cons, ← List.append_assoc] at h3
    exact h3
  have hB : Blk W g 75 (((rows.take i).flatten ++ r) ++ ((rows.drop (i + 1)).flatten ++ rest)) := by
    rw [← List.append_assoc, ← hsp]
    exact hg
  have hS := Blk.setCells r' (w := W) (g := g) (t := 75) (pre := (rows.take i).flatten) (mid := r) (post := (rows.drop (i + 1)).flatten ++ rest) hB (hrl2.trans hr35.symm)
  have hgr : W.grownBy (W.setCells g (i * 35) r') (some g) := grown_setCells r' (World.grownBy.refl W _)
  rw [hpre] at hS
  have hset : (rows.set i r').flatten = (rows.take i).flatten ++ r' ++ (rows.drop (i + 1)).flatten := by
    rw [List.set_eq_take_append_cons_drop, if_pos (by omega), List.flatten_append, List.flatten_cons, List.append_assoc]
  have hset2 : (rows.set i r').flatten.length = l.length * 35 := by
    have h5 := congrArg List.length hsp
    rw [hset]
    simp only [List.length_append] at h5 ⊢
    omega
  refine ⟨g, cap, rfl, fun j hj => ?_, ⟨rows.set i r', ?_, (RowsOf.evsK hR hgr (.inl rfl)).set i (ev_nextK hgr (.inl rfl) hr) hr35, hKb⟩, hgr⟩
  · have h4 := hB.there (i * 35 + j) (by
      rw [List.length_append, List.length_append, hpre, hrl2]; omega)
    simpa using h4
  · rw [List.length_set]
    refine Sl.owns_mk hBg (rest := rest) ?_ hset2 hnc hcm (by rw [hset2, ← hx]; exact hl)
    rw [hset, List.append_assoc _ _ rest]
    exact hS
theorem OwnK.kept {K : Nat → Prop} {W W' : World} {v : Value} {l : List Ent} (h : OwnK K W v l) (hb : Below W.heap.size W W') : OwnK K W' v l := by
  obtain ⟨rows, h1, h2, h3⟩ := h
  refine ⟨rows, h1.kept (grown_of_below hb none) ?_, RowsOf.evsK h2 (grown_of_below hb _) (.inl rfl), h3⟩
  rcases h1.2 with ⟨e, _⟩ | ⟨g, cap, cur, e, _⟩ <;> rw [e] <;> simp [Value.ownBlock]
theorem OwnK.cuts {K : Nat → Prop} {W : World} {v : Value} {l : List Ent} (h : OwnK K W v l) : ∃ a c, v = .slice a l.length c ∧ ∀ m, m ≤ l.length → ∃ aH, (∀ W2, (Instr.sliceAt 30 (.slice a l.length c) (some (.int .i64 (m : Int))) none none).run Tryz.prog W2 = .ok (.slice aH (l.length - m) (c - m)) W2) ∧ (aH = none → l.length - m = 0) ∧ ∃ rows, RowsOf 35 (EV (fun b => K b ∧ v.ownBlock ≠ some b) W) (l.drop m) rows ∧ ∀ b, aH = some b → ∀ j u, rows.flatten[j]? = some u → b.block < W.heap.size ∧ W.cell? (b.add j) = some u := by
  obtain ⟨rows, hown, hR, hKb⟩ := h
  have hfl := hR.flat
  have hfd : ∀ m, (rows.drop m).flatten = rows.flatten.drop (m * 35) := fun m => by first | exact flat_drop m hR.size | exact (flat_drop m hR.size).symm
  obtain ⟨a, c, hv, hr, _⟩ := Sl.of_owns hown
  have hle := hr.le
  subst hv
  refine ⟨a, c, rfl, fun m hm => ⟨if c = m then a else a.map (·.add (m * 35)), fun W2 => ?_, fun e => ?_, rows.drop m, hR.drop m, fun b e j u hu => ?_⟩⟩
  · rw [run_sliceAt_slice _ _ _ _ _ _ elemE', run_slice_l _ _ a l.length c elemE' .i64 (m : Int) (by omega) (by omega), sizeOfE', Result.andThen_ok]
    unfold sliced
    rw [Int.toNat_natCast]
  · cases a with
    | none => have := hr.nil rfl; omega
    | some ad => split at e <;> cases e
  · rw [hfd, List.getElem?_drop] at hu
    have hj := (List.getElem?_eq_some_iff.1 hu).1
    have hcm : c ≠ m := by omega
    rw [if_neg hcm] at e
    cases a with
    | none => cases e
    | some ad =>
      have h2 := hr.news (m * 35 + j) u hu
      simp only [Option.map_some, Option.some.injEq] at e
      subst e
      obtain ⟨b0, off, e2, hbl, _⟩ := hr.cells (by omega)
      cases e2
      rw [Addr.add_lit] at h2
      rw [Addr.add_lit, Addr.add_lit, Nat.add_assoc]
      exact ⟨hbl, h2⟩
theorem OwnK.whole {K : Nat → Prop} {W : World} {v : Value} {l : List Ent} (h : OwnK K W v l) : ∃ a c rows, v = .slice a l.length c ∧ (a = none → l.length = 0) ∧ RowsOf 35 (EV (fun b => K b ∧ v.ownBlock ≠ some b) W) l rows ∧ ∀ b, a = some b → ∀ j u, rows.flatten[j]? = some u → b.block < W.heap.size ∧ W.cell? (b.add j) = some u := by
  obtain ⟨rows, hown, hR, hKb⟩ := h
  obtain ⟨a, c, hv, hr, _⟩ := Sl.of_owns hown
  refine ⟨a, c, rows, hv, fun e => (hr.nil e).1, hR, fun b e j u hu => ?_⟩
  subst e
  have hj := (List.getElem?_eq_some_iff.1 hu).1
  have hfl := hR.flat
  obtain ⟨b0, off, e2, hbl, _⟩ := hr.cells (by omega)
  cases e2
  exact ⟨hbl, hr.news j u hu⟩
end Go.Proofs.YtnonfdcbnkdmcaaGreatDoor
