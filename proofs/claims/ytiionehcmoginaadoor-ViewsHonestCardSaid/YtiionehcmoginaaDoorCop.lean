/- store.copied -/
import Derived.Test.YtiionehcmoginaaDoorLog
namespace Go.Proofs.YtiionehcmoginaaDoor
open Go.RowKit Go.Mem
open Go.Sto (Ent Lg St)

theorem size26 : (Tryd.prog.info? 27).map (·.size) = some 3 := by kernel_rfl

def CpK (w0 g tb k i b : Nat) : Prop := b ≠ g ∧ b ≠ tb ∧ (i < k → w0 ≤ b)
/-- the loop of copied: the entries of the first k logs are its own. -/
structure CpI (w : World) (sb tb g : Nat) (s : St) (cap : Nat) (rest : List Value) (k : Nat) (wr : World) : Prop where
  ex : ∃ rows : List (List Value), Blk wr g 137 (rows.flatten ++ rest) ∧ rows.length = s.logs.length ∧ (∀ r ∈ rows, r.length = 2) ∧ ∀ (i : Nat) x r, s.logs[i]? = some x → rows[i]? = some r → LV (CpK w.heap.size g tb k i) wr x r
  sbB : Blk wr sb 27 (stC s (some ⟨g, 0, none⟩) s.logs.length cap)
  tbB : ∃ x0 x1 x2, Blk wr tb 27 [x0, x1, x2]
  below : Below w.heap.size w wr
  hg : w.heap.size ≤ g
  htb : w.heap.size ≤ tb
  ne : g ≠ sb ∧ g ≠ tb ∧ sb ≠ tb

section
variable {w wr w2 : World} {sb tb g k cap : Nat} {s : St} {rest : List Value} {x : Lg}
theorem CpI.get (h : CpI w sb tb g s cap rest k wr) (hx : s.logs[k]? = some x) : ∃ a n c, I64 x.folder ∧ ES (fun b => b ≠ g) wr a n c x.es ∧ wr.cell? ⟨g, k * 2 + 1, none⟩ = some (.slice a n c) ∧ wr.frozen? ⟨g, k * 2 + 1, none⟩ = false := by
  obtain ⟨rows, hB, hl, hs, hr⟩ := h.ex
  have hk : k < rows.length := by rw [hl]; exact (List.getElem?_eq_some_iff.1 hx).1
  obtain ⟨ho, a, n, c, er, hb⟩ := hr k x rows[k] hx (List.getElem?_eq_getElem hk)
  refine ⟨a, n, c, ho, hb.imp fun b _ hb => hb.1, hB.at_ ?_, hB.frozen _⟩
  have := flat_get (i := k) (j := 1) hs (List.getElem?_eq_getElem hk) (u := .slice a n c) (by rw [er]; rfl)
  rw [List.getElem?_append_left (List.getElem?_eq_some_iff.1 this).1]
  exact this
theorem CpI.cell2 (h : CpI w sb tb g s cap rest k wr) (hb : Below wr.heap.size wr w2) {p : Nat} {v : Value} (hc : wr.cell? ⟨g, p, none⟩ = some v) : w2.cell? ⟨g, p, none⟩ = some v ∧ w2.frozen? ⟨g, p, none⟩ = false := by
  obtain ⟨rows, hB, _⟩ := h.ex
  exact ⟨(hb.cell (p := ⟨g, p, none⟩) hB.lt).trans hc, (hB.below hb hB.lt).frozen p⟩
theorem CpI.step (h : CpI w sb tb g s cap rest k wr) (hx : s.logs[k]? = some x) (hb : Below wr.heap.size wr w2) {a' : Option Addr} {n' c' : Nat} (hd : ES (fun b => wr.heap.size ≤ b) w2 a' n' c' x.es) : CpI w sb tb g s cap rest (k + 1) (w2.setCell ⟨g, k * 2 + 1, none⟩ (.slice a' n' c')) := by
  obtain ⟨rows, hB, hl, hs, hr⟩ := h.ex
  obtain ⟨y0, y1, y2, htB⟩ := h.tbB
  have hk : k < rows.length := by rw [hl]; exact (List.getElem?_eq_some_iff.1 hx).1
  have hrk : rows[k]? = some rows[k] := List.getElem?_eq_getElem hk
  obtain ⟨ho, a, n, c, er, _⟩ := hr k x rows[k] hx hrk
  have hsize := h.below.size
  have hkeep : Keeps (fun b => b ≠ g) w2 (w2.setCell ⟨g, k * 2 + 1, none⟩ (.slice a' n' c')) := ⟨by simp [World.setCell], fun b _ hbg => Below.heap_setCell w2 ⟨g, k * 2 + 1, none⟩ _ b hbg⟩
  refine ⟨⟨rows.set k (rows[k].set 1 (.slice a' n' c')), ?_, by simpa using hl, ?_, ?_⟩, (h.sbB.below hb h.sbB.lt).far (Ne.symm h.ne.1) _, ⟨y0, y1, y2, (htB.below hb htB.lt).far (Ne.symm h.ne.2.1) _⟩, ?_, h.hg, h.htb, h.ne⟩
  · have := (hB.below hb hB.lt).set (k * 2 + 1) (.slice a' n' c')
    rw [List.set_append_left _ _ (by rw [flat_len hs]; omega)] at this
    rw [flat_set _ hs hrk (by omega)]
    exact this
  · intro r hr'
    rcases List.mem_or_eq_of_mem_set hr' with hr' | rfl
    · exact hs r hr'
    · rw [List.length_set]; exact hs _ (List.getElem_mem hk)
  · intro i x' r' hx' hr'
    by_cases hik : i = k
    · subst hik
      rw [List.getElem?_set_self hk] at hr'
      rw [hx] at hx'
      cases hx'; cases hr'
      rw [er]
      refine ⟨ho, a', n', c', rfl, (hd.imp (K' := CpK w.heap.size g tb (i + 1) i) fun b _ hb2 => ⟨?_, ?_, fun _ => Nat.le_trans hsize hb2⟩).keep (hkeep.imp fun b hb2 => hb2.1)⟩
      · have := hB.lt
        omega
      · have := htB.lt
        omega
    · rw [List.getElem?_set_ne (Ne.symm hik)] at hr'
      have h1 := (hr i x' r' hx' hr').keep (.below hb)
      exact (h1.keep (hkeep.imp fun b hb2 => hb2.1)).imp fun b _ hb2 => ⟨hb2.1, hb2.2.1, fun hi => hb2.2.2 (by omega)⟩
  · exact (h.below.trans (hb.mono hsize)).setCell h.hg _
theorem CpI.done (h : CpI w sb tb g s cap rest s.logs.length wr) (hc : s.logs.length ≤ cap) (hcm : cap ≤ maxLen) (hn : s.logs.length ≤ 100000) : LS (fun b => w.heap.size ≤ b ∧ b ≠ tb) wr (some ⟨g, 0, none⟩) s.logs.length cap s.logs := by
  obtain ⟨rows, hB, hl, hs, hr⟩ := h.ex
  refine ⟨⟨rfl, fun _ ad e => by cases e; exact ⟨h.hg, h.ne.2.1⟩, rows, ⟨by rw [flat_len hs, hl], hc, hcm, fun e => (by cases e), fun _ => ⟨g, 0, rfl, hB.lt, fun j u hj => hB.at_ ?_⟩⟩, hl, hs, fun i e r he hre => ?_⟩, hn⟩
  · rw [Nat.zero_add, List.getElem?_append_left (List.getElem?_eq_some_iff.1 hj).1]
    exact hj
  · exact (hr i e r he hre).imp fun b _ hb => ⟨hb.2.2 (List.getElem?_eq_some_iff.1 he).1, hb.2.1⟩
end

/-- a function that hands back a store of its own memory. -/
def StPost (s : St) (w : World) (e : Ending) (w' : World) : Prop := ∃ a c, e = .returned (.agg #[.int .i64 s.id, .int .i64 s.priv, .slice a s.logs.length c]) ∧ SV (fun b => w.heap.size ≤ b) w' a s.logs.length c s ∧ Below w.heap.size w w'

theorem CpI.head {w wr w2 : World} {sb tb g k cap : Nat} {s : St} {rest : List Value} (h : CpI w sb tb g s cap rest k wr) (hb : Below wr.heap.size wr w2) : w2.cell? ⟨sb, 2, none⟩ = some (.slice (some ⟨g, 0, none⟩) s.logs.length cap) := (h.sbB.below hb h.sbB.lt).at_ (i := 2) rfl
theorem copied_set {W : World} {tb : Nat} {t : TypeId} {x0 x1 x2 : Value} (h : Blk W tb t [x0, x1, x2]) (y0 y1 y2 : Value) : Blk (((W.setCell ⟨tb, 0, none⟩ y0).setCell ⟨tb, 1, none⟩ y1).setCell ⟨tb, 2, none⟩ y2) tb t [y0, y1, y2] := ((h.set 0 y0).set 1 y1).set 2 y2
theorem copied_keeps {K : Nat → Prop} (W : World) (tb : Nat) (y0 y1 y2 : Value) : Keeps (fun b => K b ∧ b ≠ tb) W (((W.setCell ⟨tb, 0, none⟩ y0).setCell ⟨tb, 1, none⟩ y1).setCell ⟨tb, 2, none⟩ y2) :=
  ⟨by simp [World.setCell], fun b _ hb => ((Below.heap_setCell _ ⟨tb, 2, none⟩ _ b hb.2).trans ((Below.heap_setCell _ ⟨tb, 1, none⟩ _ b hb.2))).trans (Below.heap_setCell _ ⟨tb, 0, none⟩ _ b hb.2)⟩
theorem store_ret {W : World} {tb : Nat} {x0 x1 x2 : Value} (hB : Blk W tb 27 [x0, x1, x2]) {fn : Func} {p : Tmp} (h : fn.results = #[.cell p 27]) {a : Act} (hp : a.tmps.getD p undef = .pointer (some ⟨tb, 0, none⟩)) (hd : a.defers = []) {Post : Ending → World → Prop} (hP : Post (.returned (.agg #[x0, x1, x2])) W) :
    bodyPost Tryd.prog fn Post .ret a W :=
  bodyPost_ret (results_cell_row h _ _ tb 27 #[x0, x1, x2] (0, 0) _ hp hB Tryd.underlying27 rfl size26) hd hP

end Go.Proofs.YtiionehcmoginaaDoor
