/- store.clones -/
import Derived.Test.YtlpgjdlkjahdgaaGreatDoorLst
namespace Go.Proofs.YtlpgjdlkjahdgaaGreatDoor
open Go.RowKit Go.Mem
open Go.Sto (Ent Lg)

def ClK (w0 g k i b : Nat) : Prop := b ≠ g ∧ (i < k → w0 ≤ b)
/-- the loop of clones: the first k rows have data of their own. -/
structure ClI (w : World) (g : Nat) (l : List Ent) (rest : List Value) (k : Nat) (wr : World) : Prop where
  ex : ∃ rows : List (List Value), Blk wr g 81 (rows.flatten ++ rest) ∧ rows.length = l.length ∧ (∀ r ∈ rows, r.length = 35) ∧ ∀ (i : Nat) e r, l[i]? = some e → rows[i]? = some r → EV (ClK w.heap.size g k i) wr e r
  below : Below w.heap.size w wr
  hg : w.heap.size ≤ g

section
variable {w wr w2 : World} {g k : Nat} {l : List Ent} {rest : List Value} {e : Ent}
theorem ClI.get (h : ClI w g l rest k wr) (he : l[k]? = some e) : ∃ a n c, OkE e ∧ BW wr a n c e.data ∧ wr.cell? ⟨g, k * 35 + 33, none⟩ = some (.slice a n c) ∧ wr.frozen? ⟨g, k * 35 + 33, none⟩ = false := by
  obtain ⟨rows, hB, hl, hs, hr⟩ := h.ex
  have hk : k < rows.length := by rw [hl]; exact (List.getElem?_eq_some_iff.1 he).1
  obtain ⟨ho, a, n, c, er, hb⟩ := hr k e rows[k] he (List.getElem?_eq_getElem hk)
  refine ⟨a, n, c, ho, hb.bs, hB.at_ ?_, hB.frozen _⟩
  have := flat_get (i := k) (j := 33) hs (List.getElem?_eq_getElem hk) (u := .slice a n c) (by rw [er]; exact entC_data ho.dig _ _ _)
  rw [List.getElem?_append_left (List.getElem?_eq_some_iff.1 this).1]
  exact this
theorem ClI.cell2 (h : ClI w g l rest k wr) (hb : Below wr.heap.size wr w2) {p : Nat} {v : Value} (hc : wr.cell? ⟨g, p, none⟩ = some v) (_hf : wr.frozen? ⟨g, p, none⟩ = false) : w2.cell? ⟨g, p, none⟩ = some v ∧ w2.frozen? ⟨g, p, none⟩ = false := by
  obtain ⟨rows, hB, _⟩ := h.ex
  exact ⟨(hb.cell (p := ⟨g, p, none⟩) hB.lt).trans hc, (hB.below hb hB.lt).frozen p⟩
theorem ClI.step (h : ClI w g l rest k wr) (he : l[k]? = some e) (hb : Below wr.heap.size wr w2) {a' : Option Addr} {n' c' : Nat} (hd : BK (fun b => wr.heap.size ≤ b) w2 a' n' c' e.data) : ClI w g l rest (k + 1) (w2.setCell ⟨g, k * 35 + 33, none⟩ (.slice a' n' c')) := by
  obtain ⟨rows, hB, hl, hs, hr⟩ := h.ex
  have hk : k < rows.length := by rw [hl]; exact (List.getElem?_eq_some_iff.1 he).1
  have hrk : rows[k]? = some rows[k] := List.getElem?_eq_getElem hk
  obtain ⟨ho, a, n, c, er, _⟩ := hr k e rows[k] he hrk
  have hsize := h.below.size
  have hkeep : Keeps (fun b => b ≠ g) w2 (w2.setCell ⟨g, k * 35 + 33, none⟩ (.slice a' n' c')) := ⟨by simp [World.setCell], fun b _ hbg => Below.heap_setCell w2 ⟨g, k * 35 + 33, none⟩ _ b hbg⟩
  refine ⟨⟨rows.set k (rows[k].set 33 (.slice a' n' c')), ?_, by simpa using hl, ?_, ?_⟩, ?_, h.hg⟩
  · have := (hB.below hb hB.lt).set (k * 35 + 33) (.slice a' n' c')
    rw [List.set_append_left _ _ (by rw [flat_len hs]; omega)] at this
    rw [flat_set _ hs hrk (by omega)]
    exact this
  · intro r hr'
    rcases List.mem_or_eq_of_mem_set hr' with hr' | rfl
    · exact hs r hr'
    · rw [List.length_set]; exact hs _ (List.getElem_mem hk)
  · intro i e' r' he' hr'
    by_cases hik : i = k
    · subst hik
      rw [List.getElem?_set_self hk] at hr'
      rw [he] at he'
      cases he'; cases hr'
      rw [er, entC_set ho.dig]
      refine ⟨ho, a', n', c', rfl, (hd.imp (K' := ClK w.heap.size g (i + 1) i) fun b _ hb2 => ⟨?_, fun _ => Nat.le_trans hsize hb2⟩).keep (hkeep.imp fun b hb2 => hb2.1)⟩
      have := hB.lt
      omega
    · rw [List.getElem?_set_ne (Ne.symm hik)] at hr'
      have h1 := (hr i e' r' he' hr').keep (.below hb)
      exact (h1.keep (hkeep.imp fun b hb2 => hb2.1)).imp fun b _ hb2 => ⟨hb2.1, fun hi => hb2.2 (by omega)⟩
  · exact (h.below.trans (hb.mono hsize)).setCell h.hg _
theorem ClI.done (h : ClI w g l rest l.length wr) {cap : Nat} (hc : l.length ≤ cap) (hcm : cap ≤ maxLen) (hn : l.length ≤ 100000) : ES (fun b => w.heap.size ≤ b) wr (some ⟨g, 0, none⟩) l.length cap l := by
  obtain ⟨rows, hB, hl, hs, hr⟩ := h.ex
  refine ⟨⟨rfl, fun _ ad e => by cases e; exact h.hg, rows, ⟨by rw [flat_len hs, hl], hc, hcm, fun e => (by cases e), fun _ => ⟨g, 0, rfl, hB.lt, fun j u hj => hB.at_ ?_⟩⟩, hl, hs, fun i e r he hre => ?_⟩, hn⟩
  · rw [Nat.zero_add, List.getElem?_append_left (List.getElem?_eq_some_iff.1 hj).1]
    exact hj
  · exact (hr i e r he hre).imp fun b _ hb => hb.2 (List.getElem?_eq_some_iff.1 he).1
end

/-- what clones and its like hand back. -/
def ESPost (n : Nat) (l : List Ent) (w : World) (e : Ending) (w' : World) : Prop := ∃ a c, e = .returned (.slice a n c) ∧ ES (fun b => w.heap.size ≤ b) w' a n c l ∧ Below w.heap.size w w'

set_option maxRecDepth 20000 in
set_option maxHeartbeats 1000000 in
theorem clones_any (K : Nat → Prop) (a : Option Addr) (n c : Nat) (l : List Ent) (w : World) (H : ES K w a n c l) :
    Calls Tryz.prog 65 #[.slice a n c] w (ESPost n l w) := by
  obtain ⟨rows, hR, hO⟩ := H.rs.rows
  have hbd := H.bd
  have hlen := H.rs.len
  have hcl := Lib.hid (cloneE_any a n c rows.flatten w hR (rows_one hO fun _ _ h => EV.one h) (by omega))
  rcases Nat.eq_zero_or_pos n with h0 | hpos
  · subst h0
    have hl0 : l = [] := List.eq_nil_of_length_eq_zero hlen
    subst hl0
    clear hR
    go_enter Tryz.func65, Tryz.ntmps65
    go_wp2_with fail
    refine hcl.out.mono ?_
    rintro e w1 ⟨v, rfl, hown, hb⟩
    obtain ⟨a', c', rfl, hR', hsep⟩ := Sl.of_owns hown
    have hfin : Hid (ES (fun b => w.heap.size ≤ b) w1 a' 0 c' []) := ⟨⟨rfl, fun _ ad e => (hsep ad e).1, [], ⟨by simp, hR'.le, hR'.max, hR'.nil, fun h => absurd h (by omega)⟩, RowsOf.nil⟩, Nat.zero_le _⟩
    clear hown hR' hsep hcl hO H
    go_wp2_with fail
    go_loopw [8] (fun i wr => i = .int .i64 0 ∧ wr = w1) (fun _ _ => 0)
    case atStart => exact ⟨rfl, rfl⟩
    case round =>
      obtain ⟨rfl, rfl⟩ := hrel
      go_wp2_with fail
      go_ret
      exact ⟨a', c', rfl, hfin.out, hb⟩
  · have hn1 : (n : Int) ≤ 100000 := by omega
    go_enter Tryz.func65, Tryz.ntmps65
    go_wp2_with fail
    refine hcl.out.mono ?_
    rintro e w1 ⟨v, rfl, hown, hb⟩
    obtain ⟨g, cap, rest, rfl, hg, hgl, hgb, hcap, hcm, hl2⟩ := Sl.owns_row hown hpos
    have hI : Hid (ClI w g l rest 0 w1) := ⟨⟨rows, hgb, hO.len, hO.size, fun i e r he hr => ((hO.each i e r he hr).imp fun b hb2 _ => ⟨by omega, fun h => absurd h (by omega)⟩).keep (.below hb)⟩, hb, hg⟩
    clear hown hcl hR hgb hl2
    go_wp2_with fail
    go_loopw [8] (fun i wr => ∃ k : Nat, k ≤ n ∧ i = .int .i64 k ∧ Hid (ClI w g l rest k wr)) (fun i _ => n - (intOf i).toNat)
    case atStart => exact ⟨0, Nat.zero_le _, rfl, hI⟩
    case round =>
      obtain ⟨k, hk, rfl, hI⟩ := hrel
      by_cases hlt : k < n
      · have hkl : k < l.length := by omega
        obtain ⟨e, he⟩ : ∃ e, l[k]? = some e := ⟨_, List.getElem?_eq_getElem hkl⟩
        obtain ⟨da, dn, dc, ho, hbs, c0, f0⟩ := hI.out.get he
        have hbc := Lib.hid (bclone_any da dn dc e.data wr hbs (by have := hbs.len; have := ho.data; omega))
        have he' := Lib.hid he
        have k0 : (0 : Int) ≤ (k : Int) := by omega
        have k1 : (k : Int) < (n : Int) := by omega
        clear he hbs hb
        go_wp2_with fail
        refine hbc.out.mono ?_
        rintro _ w2 ⟨a', c', rfl, hd, hb2⟩
        obtain ⟨c1, f1⟩ := hI.out.cell2 hb2 c0 f0
        have hI2 := Lib.hid (hI.out.step he'.out hb2 hd)
        clear hbc hI c0 f0 hd hb2
        go_wp2_with fail
        go_roundw
        case rel => exact ⟨k + 1, by omega, by go_num, hI2⟩
        case measure => simp [intOf]; omega
      · obtain rfl : k = n := by omega
        have hfin : Hid (ESPost k l w (.returned (.slice (some ⟨g, 0, none⟩) k cap)) wr) := ⟨_, cap, rfl, by subst hlen; exact hI.out.done hcap hcm hbd, hI.out.below⟩
        clear hI
        go_wp2_with fail
        go_ret
        exact hfin.out
end Go.Proofs.YtlpgjdlkjahdgaaGreatDoor
