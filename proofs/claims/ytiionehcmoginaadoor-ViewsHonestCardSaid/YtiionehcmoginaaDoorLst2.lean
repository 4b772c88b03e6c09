/- store.clones -/
import Derived.Test.YtiionehcmoginaaDoorLst
namespace Go.Proofs.YtiionehcmoginaaDoor
open Go.RowKit Go.Mem
open Go.Sto (Ent Lg)

def ClK (w0 g k i b : Nat) : Prop := b ≠ g ∧ (i < k → w0 ≤ b)
/-- the loop of clones: the first k rows have data of their own. -/
structure ClI (w : World) (g : Nat) (l : List Ent) (rest : List Value) (k : Nat) (wr : World) : Prop where
  ex : ∃ rows : List (List Value), Blk wr g 73 (rows.flatten ++ rest) ∧ rows.length = l.length ∧ (∀ r ∈ rows, r.length = 35) ∧ ∀ (i : Nat) e r, l[i]? = some e → rows[i]? = some r → EV (ClK w.heap.size g k i) wr e r
  below : Below w.heap.size w wr
  hg : w.heap.size ≤ g

section
variable {w wr w2 : World} {g k : Nat} {l : List Ent} {rest : List Value} {e : Ent}
theorem ClI.get (h : ClI w g l rest k wr) (he : l[k]? = some e) : ∃ a n c, OkE e ∧ BW wr a n c e.data ∧ wr.cell? ⟨g, k * 35 + 33, none⟩ = some (.slice a n c) ∧ wr.frozen? ⟨g, k * 35 + 33, none⟩ = false := by
  obtain ⟨rows, hB, hl, hs, hr⟩ := h.ex
  have hk : k < rows.length := by rw [hl]; exact (List.getElem?_eq_some_iff.1 he).1
  obtain ⟨ho, a, n, c, er, hb⟩ := hr k e rows[k] he (List.getElem?_eq_getElem hk)
  refine ⟨a, n, c, ho, hb.bs, hB.at_ ?_, hB.frozen _⟩
  have := flat_get (i := k) (j := 33) hs (List.getElem?_eq_getElem hk) (u := .slice a n c) (by rw [er]; exact entC_data ho.dig _ _ _)
  rw [List.getElem?_append_left (List.getElem?_eq_some_iff.1 this).1]
  exact this
theorem ClI.cell2 (h : ClI w g l rest k wr) (hb : Below wr.heap.size wr w2) {p : Nat} {v : Value} (hc : wr.cell? ⟨g, p, none⟩ = some v) (_hf : wr.frozen? ⟨g, p, none⟩ = false) : w2.cell? ⟨g, p, none⟩ = some v ∧ w2.frozen? ⟨g, p, none⟩ = false := by
  obtain ⟨rows, hB, _⟩ := h.ex
  exact ⟨(hb.cell (p := ⟨g, p, none⟩) hB.lt).trans hc, (hB.below hb hB.lt).frozen p⟩
theorem ClI.step (h : ClI w g l rest k wr) (he : l[k]? = some e) (hb : Below wr.heap.size wr w2) {a' : Option Addr} {n' c' : Nat} (hd : BK (fun b => wr.heap.size ≤ b) w2 a' n' c' e.data) : ClI w g l rest (k + 1) (w2.setCell ⟨g, k * 35 + 33, none⟩ (.slice a' n' c')) := by
  obtain ⟨rows, hB, hl, hs, hr⟩ := h.ex
  have hk : k < rows.length := by rw [hl]; exact (List.getElem?_eq_some_iff.1 he).1
  have hrk : rows[k]? = some rows[k] := List.getElem?_eq_getElem hk
  obtain ⟨ho, a, n, c, er, _⟩ := hr k e rows[k] he hrk
  have hsize := h.below.size
  have hkeep : Keeps (fun b => b ≠ g) w2 (w2.setCell ⟨g, k * 35 + 33, none⟩ (.slice a' n' c')) := ⟨by simp [World.setCell], fun b _ hbg => Below.heap_setCell w2 ⟨g, k * 35 + 33, none⟩ _ b hbg⟩
  refine ⟨⟨rows.set k (rows[k].set 33 (.slice a' n' c')), ?_, by simpa using hl, ?_, ?_⟩, ?_, h.hg⟩
  · have := (hB.below hb hB.lt).set (k * 35 + 33) (.slice a' n' c')
    rw [List.set_append_left _ _ (by rw [flat_len hs]; omega)] at this
    rw [flat_set _ hs hrk (by omega)]
    exact this
  · intro r hr'
    rcases List.mem_or_eq_of_mem_set hr' with hr' | rfl
    · exact hs r hr'
    · rw [List.length_set]; exact hs _ (List.getElem_mem hk)
  · intro i e' r' he' hr'
    by_cases hik : i = k
    · subst hik
      rw [List.getElem?_set_self hk] at hr'
      rw [he] at he'
      cases he'; cases hr'
      rw [er, entC_set ho.dig]
      refine ⟨ho, a', n', c', rfl, (hd.imp (K' := ClK w.heap.size g (i + 1) i) fun b _ hb2 => ⟨?_, fun _ => Nat.le_trans hsize hb2⟩).keep (hkeep.imp fun b hb2 => hb2.1)⟩
      have := hB.lt
      omega
    · rw [List.getElem?_set_ne (Ne.symm hik)] at hr'
      have h1 := (hr i e' r' he' hr').keep (.below hb)
      exact (h1.keep (hkeep.imp fun b hb2 => hb2.1)).imp fun b _ hb2 => ⟨hb2.1, fun hi => hb2.2 (by omega)⟩
  · exact (h.below.trans (hb.mono hsize)).setCell h.hg _
theorem ClI.done (h : ClI w g l rest l.length wr) {cap : Nat} (hc : l.length ≤ cap) (hcm : cap ≤ maxLen) (hn : l.length ≤ 100000) : ES (fun b => w.heap.size ≤ b) wr (some ⟨g, 0, none⟩) l.length cap l := by
  obtain ⟨rows, hB, hl, hs, hr⟩ := h.ex
  refine ⟨⟨rfl, fun _ ad e => by cases e; exact h.hg, rows, ⟨by rw [flat_len hs, hl], hc, hcm, fun e => (by cases e), fun _ => ⟨g, 0, rfl, hB.lt, fun j u hj => hB.at_ ?_⟩⟩, hl, hs, fun i e r he hre => ?_⟩, hn⟩
  · rw [Nat.zero_add, List.getElem?_append_left (List.getElem?_eq_some_iff.1 hj).1]
    exact hj
  · exact (hr i e r he hre).imp fun b _ hb => hb.2 (List.getElem?_eq_some_iff.1 he).1
end

/-- what clones and its like hand back. -/
def ESPost (n : Nat) (l : List Ent) (w : World) (e : Ending) (w' : World) : Prop := ∃ a c, e = .returned (.slice a n c) ∧ ES (fun b => w.heap.size ≤ b) w' a n c l ∧ Below w.heap.size w w'

end Go.Proofs.YtiionehcmoginaaDoor
