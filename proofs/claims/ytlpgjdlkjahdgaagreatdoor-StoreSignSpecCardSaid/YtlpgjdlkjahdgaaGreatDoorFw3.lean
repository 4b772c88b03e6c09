/- entries, logs, stores as they may come in; ref30.FewEntries, Few -/
import Derived.Test.YtlpgjdlkjahdgaaGreatDoorLog
import Derived.Test.YtlpgjdlkjahdgaaGreatDoorSgn3
import Derived.Deep.QuietTactic
namespace Go.Proofs.YtlpgjdlkjahdgaaGreatDoor
open Go.RowKit Go.Mem
open Go.Sto (Ent Lg St)

/-- entries as they may come in: their data may be of any length. -/
structure OkR (e : Ent) : Prop where
  dig : e.dig.length = 32
  lt : ∀ u ∈ e.dig, u < 256
  lo : -9223372036854775808 ≤ e.kind
  hi : e.kind ≤ 9223372036854775807
def EVr (w : World) (e : Ent) (r : List Value) : Prop := OkR e ∧ ∃ a n c, r = entC e a n c ∧ BW w a n c e.data
abbrev ESr (w : World) (a : Option Addr) (n c : Nat) (l : List Ent) : Prop := RS 35 EVr (fun _ => True) w a n c l
theorem ESr.below {w w' : World} {a : Option Addr} {n c : Nat} {l : List Ent} (h : ESr w a n c l) (hb : Below w.heap.size w w') : ESr w' a n c l := h.keep (.below hb) fun _ _ ⟨ho, a, n, c, er, hB⟩ => ⟨ho, a, n, c, er, hB.below hb⟩
theorem ESr.es {w : World} {a : Option Addr} {n c : Nat} {l : List Ent} (h : ESr w a n c l) (hn : n ≤ 100000) (hd : ∀ e ∈ l, e.data.length ≤ 1000000) : ES (fun _ => True) w a n c l := by
  refine ⟨⟨h.len, h.sep, ?_⟩, hn⟩
  obtain ⟨rows, hR, hO⟩ := h.rows
  refine ⟨rows, hR, hO.len, hO.size, fun i e r he hr => ?_⟩
  obtain ⟨ho, a, n, c, er, hB⟩ := hO.each i e r he hr
  exact ⟨⟨ho.dig, ho.lt, ho.lo, ho.hi, hd e (List.mem_of_getElem? he)⟩, a, n, c, er, hB.bk⟩

def fewE (l : List Ent) : Bool := l.all (fun e => decide (e.data.length ≤ 9000))
def few30 (l : List Ent) : Bool := fewE l && decide (l.length ≤ 14)

set_option maxRecDepth 20000 in
set_option maxHeartbeats 1000000 in
theorem fewE30_any (a : Option Addr) (n c : Nat) (l : List Ent) (w : World) (H : ESr w a n c l) :
    Calls Tryz.prog 23 #[.slice a n c] w fun e w' => e = .returned (.bool (few30 l)) ∧ w' = w := by
  have hlen := H.len
  have hmx := H.max
  have hle := H.le
  have n63 : (n : Int) ≤ 9223372036854775807 := by omega
  have H' := Lib.hid H
  clear H hmx hle
  obtain ⟨X, hX⟩ : ∃ X, X = fun (e : Ending) (w' : World) => e = .returned (.bool (few30 l)) ∧ w' = w := ⟨_, rfl⟩
  have hfin : Hid (∀ b, few30 l = b → X (.returned (.bool b)) w) := fun b hb => by rw [hX, hb]; exact ⟨rfl, rfl⟩
  rw [← hX]
  clear hX
  go_enter Tryz.func23, Tryz.ntmps23
  go_wp2_with fail
  go_loop [3] (fun i => ∃ k : Nat, k ≤ n ∧ i = .int .i64 k ∧ Hid (∀ e ∈ l.take k, e.data.length ≤ 9000)) (fun i => n - (intOf i).toNat)
  case atStart => exact ⟨0, Nat.zero_le _, rfl, fun _ h => by cases h⟩
  case round =>
    obtain ⟨k, hk, rfl, hall⟩ := hrel
    by_cases hlt : k < n
    · obtain ⟨x, hx⟩ : ∃ x, l[k]? = some x := ⟨_, List.getElem?_eq_getElem (by omega)⟩
      obtain ⟨b, off, r, rfl, hbl, _, ⟨ho, da, dn, dc, er, hB⟩, hrl, hrg⟩ := H'.out.get hx
      have hc : w.cell? ⟨b, off + k * 35 + 33, none⟩ = some (.slice da dn dc) := by rw [er] at hrg; exact hrg 33 _ (entC_data ho.dig _ _ _)
      have hdl := hB.len
      have k0 : (0 : Int) ≤ (k : Int) := by omega
      have k1 : (k : Int) < (n : Int) := by omega
      clear er hrg hrl ho hB
      by_cases hd : dn ≤ 9000
      · have g1 : decide ((9000 : Int) < (dn : Int)) = false := decide_eq_false (by omega)
        have hall2 : Hid (∀ e ∈ l.take (k + 1), e.data.length ≤ 9000) := fun e he => by
          rw [List.take_succ_eq_append_getElem (by omega), (List.getElem?_eq_some_iff.1 hx).2] at he
          rcases List.mem_append.1 he with he | he
          · exact hall.out e he
          · rw [List.mem_singleton] at he; rw [he, hdl]; exact hd
        clear hx hd hdl
        go_wp2_with fail
        go_round
        case rel => exact ⟨k + 1, by omega, by go_num, hall2⟩
        case measure => simp [intOf]; omega
      · have g1 : decide ((9000 : Int) < (dn : Int)) = true := decide_eq_true (by omega)
        have hf := Lib.hid (hfin.out false (by
          have : fewE l = false := List.all_eq_false.2 ⟨x, List.mem_of_getElem? hx, by rw [hdl]; simpa using hd⟩
          unfold few30; rw [this]; rfl))
        clear hx hd hdl
        go_wp2_with fail
        exact hf.out
    · obtain rfl : k = n := by omega
      have hA : fewE l = true := List.all_eq_true.2 fun e he => decide_eq_true (hall.out e (by rw [List.take_of_length_le (by omega)]; exact he))
      obtain ⟨q, hq⟩ : ∃ q, Hid (decide ((k : Int) ≤ 14) = q) := ⟨_, rfl⟩
      have hf := Lib.hid (hfin.out q (by unfold few30; rw [hA, hlen, ← hq.out, Bool.true_and]; exact decide_eq_decide.2 (by omega)))
      have g1 := hq.out
      clear hA hall hq
      go_wp2_with fail
      exact hf.out

/-- logs as they may come in. -/
def LVr (w : World) (x : Lg) (r : List Value) : Prop := I64 x.folder ∧ ∃ a n c, r = logC x.folder a n c ∧ ESr w a n c x.es
abbrev LSr (w : World) (a : Option Addr) (n c : Nat) (l : List Lg) : Prop := RS 2 LVr (fun _ => True) w a n c l
theorem LSr.below {w w' : World} {a : Option Addr} {n c : Nat} {l : List Lg} (h : LSr w a n c l) (hb : Below w.heap.size w w') : LSr w' a n c l := h.keep (.below hb) fun _ _ ⟨ho, a, n, c, er, hB⟩ => ⟨ho, a, n, c, er, ESr.below hB hb⟩
structure SVr (w : World) (a : Option Addr) (n c : Nat) (s : St) : Prop where
  ls : LSr w a n c s.logs
  id : I64 s.id
  priv : I64 s.priv
theorem SVr.below {w w' : World} {a : Option Addr} {n c : Nat} {s : St} (h : SVr w a n c s) (hb : Below w.heap.size w w') : SVr w' a n c s := ⟨h.ls.below hb, h.id, h.priv⟩
def few30s (s : St) : Bool := s.logs.all (fun x => few30 x.es) && decide (s.logs.length ≤ 4)
theorem few30_iff {l : List Ent} (h : few30 l = true) : l.length ≤ 14 ∧ ∀ e ∈ l, e.data.length ≤ 9000 := by
  unfold few30 fewE at h
  simp only [Bool.and_eq_true, List.all_eq_true, decide_eq_true_eq] at h
  exact ⟨h.2, h.1⟩
theorem few30s_iff {s : St} (h : few30s s = true) : s.logs.length ≤ 4 ∧ ∀ x ∈ s.logs, x.es.length ≤ 14 ∧ ∀ e ∈ x.es, e.data.length ≤ 9000 := by
  unfold few30s at h
  simp only [Bool.and_eq_true, List.all_eq_true, decide_eq_true_eq] at h
  exact ⟨h.2, fun x hx => few30_iff (h.1 x hx)⟩
theorem SVr.sv {w : World} {a : Option Addr} {n c : Nat} {s : St} (h : SVr w a n c s) (hf : few30s s = true) : SV (fun _ => True) w a n c s := by
  obtain ⟨h1, h2⟩ := few30s_iff hf
  refine ⟨⟨⟨h.ls.len, h.ls.sep, ?_⟩, by have := h.ls.len; omega⟩, h.id, h.priv⟩
  obtain ⟨rows, hR, hO⟩ := h.ls.rows
  refine ⟨rows, hR, hO.len, hO.size, fun i x r hx hr => ?_⟩
  obtain ⟨ho, a, n, c, er, hB⟩ := hO.each i x r hx hr
  obtain ⟨h3, h4⟩ := h2 x (List.mem_of_getElem? hx)
  exact ⟨ho, a, n, c, er, ESr.es hB (by have := hB.len; omega) fun e he => Nat.le_trans (h4 e he) (by omega)⟩

set_option maxRecDepth 20000 in
set_option maxHeartbeats 1000000 in
theorem few30s_any (a : Option Addr) (n c : Nat) (s : St) (w : World) (H : SVr w a n c s) :
    Calls Tryz.prog 10 #[.agg (stC s a n c).toArray] w (RetBo (few30s s) w) := by
  have hlen := H.ls.len
  have hmx := H.ls.max
  have hle := H.ls.le
  have n63 : (n : Int) ≤ 9223372036854775807 := by omega
  obtain ⟨sb, hsb⟩ : ∃ sb, Hid (w.heap.size = sb) := ⟨_, rfl⟩
  obtain ⟨W1, hW1⟩ : ∃ W1, Hid (w.alloc (.cells #[.int .i64 s.id, .int .i64 s.priv, .slice a n c] 24) = W1) := ⟨_, rfl⟩
  have hB1 : Hid (Blk W1 sb 24 (stC s a n c)) := by rw [← hW1.out, ← hsb.out]; exact Blk.new w _ (stC s a n c)
  have hb1 : Hid (Below w.heap.size w W1) := by rw [← hW1.out]; exact (Below.refl _ w).alloc (Nat.le_refl _) _
  have H' := Lib.hid (H.below hb1.out)
  clear H hmx hle
  obtain ⟨X, hX⟩ : ∃ X, Hid (X = RetBo (few30s s) w) := ⟨_, rfl⟩
  have hfin : Hid (∀ b, few30s s = b → X (.returned (.bool b)) W1) := fun b hb => by rw [hX.out, hb]; exact ⟨rfl, hb1.out⟩
  rw [← hX.out]
  clear hX
  unfold stC at *
  go_enter Tryz.func10, Tryz.ntmps10
  go_upto_region 1 with fail
  rw [hsb.out]
  generalize hWq : w.alloc _ = Wq
  obtain rfl : W1 = Wq := by rw [← hWq]; exact hW1.out.symm
  clear hWq hW1
  have c2 := hB1.out.at_ (i := 2) rfl
  clear hB1 hb1
  go_wp2_with fail
  go_loop [3] (fun i => ∃ k : Nat, k ≤ n ∧ i = .int .i64 k ∧ Hid (∀ x ∈ s.logs.take k, few30 x.es = true)) (fun i => n - (intOf i).toNat)
  case atStart => exact ⟨0, Nat.zero_le _, rfl, fun _ h => by cases h⟩
  case round =>
    obtain ⟨k, hk, rfl, hall⟩ := hrel
    by_cases hlt : k < n
    · obtain ⟨x, hx⟩ : ∃ x, s.logs[k]? = some x := ⟨_, List.getElem?_eq_getElem (by omega)⟩
      obtain ⟨b, off, r, rfl, hbl, _, ⟨ho, da, dn, dc, er, hE⟩, hrl, hrg⟩ := H'.out.ls.get hx
      have hc : W1.cell? ⟨b, off + k * 2 + 1, none⟩ = some (.slice da dn dc) := by rw [er] at hrg; exact hrg 1 _ rfl
      have hfe := Lib.hid (fewE30_any da dn dc x.es W1 hE)
      have k0 : (0 : Int) ≤ (k : Int) := by omega
      have k1 : (k : Int) < (n : Int) := by omega
      have kw : IntKind.i64.wrap ((k : Int) + 1) = (k : Int) + 1 := IntWalk.i64_in _ (by omega)
      clear er hrg hrl ho hE
      obtain ⟨q, hq⟩ : ∃ q, Hid (few30 x.es = q) := ⟨_, rfl⟩
      rw [hq.out] at hfe
      go_wp2_with fail
      refine hfe.out.mono ?_
      rintro e w2 ⟨rfl, rfl⟩
      cases q with
      | true =>
        have hall2 : Hid (∀ y ∈ s.logs.take (k + 1), few30 y.es = true) := fun y hy => by
          rw [List.take_succ_eq_append_getElem (by omega), (List.getElem?_eq_some_iff.1 hx).2] at hy
          rcases List.mem_append.1 hy with hy | hy
          · exact hall.out y hy
          · rw [List.mem_singleton] at hy; rw [hy]; exact hq.out
        clear hx hq hfe
        go_wp2_with fail
        go_round
        case rel => exact ⟨k + 1, by omega, by go_num, hall2⟩
        case measure => simp [intOf]; omega
      | false =>
        have hf := Lib.hid (hfin.out false (by
          have : s.logs.all (fun x => few30 x.es) = false := List.all_eq_false.2 ⟨x, List.mem_of_getElem? hx, by rw [hq.out]; simp⟩
          unfold few30s; rw [this]; rfl))
        clear hx hq hfe
        go_wp2_with fail
        exact hf.out
    · obtain rfl : k = n := by omega
      have hA : s.logs.all (fun x => few30 x.es) = true := List.all_eq_true.2 fun e he => hall.out e (by rw [List.take_of_length_le (by omega)]; exact he)
      obtain ⟨q, hq⟩ : ∃ q, Hid (decide ((k : Int) ≤ 4) = q) := ⟨_, rfl⟩
      have hf := Lib.hid (hfin.out q (by unfold few30s; rw [hA, hlen, ← hq.out, Bool.true_and]; exact decide_eq_decide.2 (by omega)))
      have g1 := hq.out
      clear hA hall hq
      go_wp2_with fail
      exact hf.out
end Go.Proofs.YtlpgjdlkjahdgaaGreatDoor
