/- (*store.book).replace -/
import Derived.Test.YtiionehcmoginaaDoorBsf
namespace Go.Proofs.YtiionehcmoginaaDoor
open Go.RowKit Go.Mem
open Go.Sto (Ent Lg St)

theorem logsB_len : ∀ {L : List Lg} {p : Int}, Sto.logsB p L = true → p ≤ 15 → (L.length : Int) ≤ 15 - p
  | [], p, _, hp => by simp; omega
  | x :: r, p, h, hp => by
    rw [Sto.logsB_cons] at h
    have hf := h.1
    unfold Sto.folderB at hf
    rw [decide_eq_true_iff] at hf
    have := logsB_len h.2.2.2 (by omega)
    rw [List.length_cons]
    omega

/-- x.Logs[at].Entries = l, in the clone's row. -/
theorem repl_set {w w3 : World} {g p n c' n' cc : Nat} {t : TypeId} {L : List Lg} {l : List Ent} {rows : List (List Value)} {rest : List Value} {x : Lg} {a' : Option Addr}
    (hO : RowsOf 2 (LV (fun _ => True) w) L rows) (hB : Blk w3 g t (rows.flatten ++ rest)) (hg : w.heap.size ≤ g) (hb : Below w.heap.size w w3) (hx : L[p]? = some x) (HE : ES (fun _ => True) w a' n' cc l) (hL : L.length = n) (hn : n ≤ 100000) (hc : n ≤ c') (hcm : c' ≤ maxLen) :
    LS (fun _ => True) (w3.setCell ⟨g, p * 2 + 1, none⟩ (.slice a' n' cc)) (some ⟨g, 0, none⟩) n c' (L.set p ⟨x.folder, l⟩) := by
  have hk : p < rows.length := by rw [hO.len]; exact (List.getElem?_eq_some_iff.1 hx).1
  have hrk : rows[p]? = some rows[p] := List.getElem?_eq_getElem hk
  obtain ⟨hf, a, m, c, er, _⟩ := hO.each p x rows[p] hx hrk
  have hkeep : Keeps (fun b => b < w.heap.size) w (w3.setCell ⟨g, p * 2 + 1, none⟩ (.slice a' n' cc)) :=
    ⟨by simpa [World.setCell] using hb.size, fun b hb1 _ => (Below.heap_setCell w3 ⟨g, p * 2 + 1, none⟩ _ b (show b ≠ g by omega)).trans (hb.block b hb1)⟩
  have hO2 : RowsOf 2 (LV (fun _ => True) (w3.setCell ⟨g, p * 2 + 1, none⟩ (.slice a' n' cc))) L rows := hO.imp fun e r h => ((h.imp (K' := fun b => b < w.heap.size) fun b hb _ => hb).keep hkeep).imp fun _ _ _ => trivial
  have hHE : ES (fun _ => True) (w3.setCell ⟨g, p * 2 + 1, none⟩ (.slice a' n' cc)) a' n' cc l := ((HE.imp (K' := fun b => b < w.heap.size) fun b hb _ => hb).keep hkeep).imp fun _ _ _ => trivial
  have hO3 := hO2.set p (e := ⟨x.folder, l⟩) (r := rows[p].set 1 (.slice a' n' cc)) ⟨hf, a', n', cc, by rw [er]; rfl, hHE⟩ (by rw [List.length_set]; exact hO.size _ (List.getElem_mem hk))
  have hB2 := hB.set (p * 2 + 1) (.slice a' n' cc)
  rw [List.set_append_left _ _ (by rw [flat_len hO.size]; omega)] at hB2
  refine ⟨⟨by rw [List.length_set, hL], fun _ _ _ => trivial, _, ⟨by rw [hO3.flat, List.length_set, hL], hc, hcm, fun e => (by cases e), fun _ => ⟨g, 0, rfl, hB2.lt, fun j u hj => hB2.at_ ?_⟩⟩, hO3⟩, hn⟩
  rw [flat_set _ hO.size hrk (by omega)] at hj
  rw [Nat.zero_add, List.getElem?_append_left (List.getElem?_eq_some_iff.1 hj).1]
  exact hj

/-- what slices.Insert leaves. -/
theorem repl_ins {w w5 : World} {B p n n' cc : Nat} {L : List Lg} {l : List Ent} {rows : List (List Value)} {f : Int} {a' : Option Addr} {v : Value}
    (hO : RowsOf 2 (LV (fun _ => True) w) L rows) (hf : I64 f) (HE : ES (fun _ => True) w a' n' cc l) (hb : Below w.heap.size w w5) (hL : L.length = n) (hn : n + 1 ≤ 100000)
    (hown : w5.ownsRow B 137 2 v (n + 1) (rows.flatten.take (p * 2) ++ logC f a' n' cc ++ rows.flatten.drop (p * 2))) :
    ∃ a2 c2, v = .slice a2 (n + 1) c2 ∧ LS (fun b => b < w.heap.size ∨ B ≤ b) w5 a2 (n + 1) c2 (L.take p ++ [⟨f, l⟩] ++ L.drop p) := by
  obtain ⟨a2, c2, rfl, hR, hsep⟩ := Sl.of_owns hown
  have hO2 : RowsOf 2 (LV (fun b => b < w.heap.size ∨ B ≤ b) w5) L rows := hO.imp fun e r h => (h.imp fun b hb _ => Or.inl hb).keep (.below hb)
  have hO3 := ((hO2.take p).append (RowsOf.one (e := (⟨f, l⟩ : Lg)) (r := logC f a' n' cc) ⟨hf, a', n', cc, rfl, (HE.imp fun b hb _ => Or.inl hb).below hb⟩ rfl)).append (hO2.drop p)
  refine ⟨a2, c2, rfl, ⟨?_, fun _ ad e => .inr (hsep ad e).1, _, ?_, hO3⟩, hn⟩
  · simp only [List.length_append, List.length_take, List.length_drop, List.length_singleton]; omega
  · rw [List.flatten_append, List.flatten_append, flat_take p hO.size, flat_drop p hO.size, List.flatten_singleton]
    exact hR

theorem store_fin {w wa w5 : World} {tb : Nat} {s : St} {a : Option Addr} {c : Nat} (hS : SV (fun b => wa.heap.size ≤ b) w5 a s.logs.length c s) (hb : Below w.heap.size w w5) (htb : w.heap.size ≤ tb) (hta : tb < wa.heap.size) (_hwa : w.heap.size ≤ wa.heap.size) :
    StPost s w (.returned (.agg #[.int .i64 s.id, .int .i64 s.priv, .slice a s.logs.length c])) (((w5.setCell ⟨tb, 0, none⟩ (.int .i64 s.id)).setCell ⟨tb, 1, none⟩ (.int .i64 s.priv)).setCell ⟨tb, 2, none⟩ (.slice a s.logs.length c)) :=
  ⟨a, c, rfl, ((hS.imp (K' := fun b => w.heap.size ≤ b ∧ b ≠ tb) fun b _ h => ⟨by omega, by omega⟩).keep (copied_keeps _ _ _ _ _)).imp fun b _ h => h.1, ((hb.setCell htb _).setCell htb _).setCell htb _⟩

end Go.Proofs.YtiionehcmoginaaDoor
