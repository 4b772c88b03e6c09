/- an open store: its key, its heads; parts of lists of entries -/
import Derived.Test.YtiionehcmoginaaDoorSht
namespace Go.Mem
theorem RS.take {α : Type} {s : Nat} {R : World → α → List Value → Prop} {K : Nat → Prop} {w : World} {a : Option Addr} {n c : Nat} {l : List α} (h : RS s R K w a n c l) {k : Nat} (hk : k ≤ n) : RS s R K w a k c (l.take k) := by
  obtain ⟨rows, hr, ho⟩ := h.rows
  refine ⟨by rw [List.length_take, h.len]; omega, fun hn => h.sep (by omega), rows.take k, ⟨?_, by have := h.le; omega, h.max, fun e => by have := h.nil' e; omega, fun hn => ?_⟩, ho.take k⟩
  · rw [flat_len (ho.take k).size, List.length_take, ho.len, h.len, Nat.min_eq_left hk]
  · obtain ⟨b, off, e, hb, hc⟩ := hr.cells (by omega)
    refine ⟨b, off, e, hb, fun j u hj => hc j u ?_⟩
    have e2 : rows.flatten = (rows.take k).flatten ++ (rows.drop k).flatten := by rw [← List.flatten_append, List.take_append_drop]
    rw [e2, List.getElem?_append_left (List.getElem?_eq_some_iff.1 hj).1]
    exact hj
end Go.Mem
namespace Go.Proofs.YtiionehcmoginaaDoor
open Go.RowKit Go.Mem
open Go.Sto (Ent)
theorem elemE : Tryd.prog.underlying 31 = some (.slice (Tryd.prog.elem 31)) := by kernel_rfl
theorem sizeOfE (W : World) : (sizeOf (Tryd.prog.elem 31)).run Tryd.prog W = .ok 35 W := by kernel_rfl
theorem ES.take {K : Nat → Prop} {w : World} {a : Option Addr} {n c k : Nat} {l : List Ent} (h : ES K w a n c l) (hk : k ≤ n) : ES K w a k c (l.take k) := ⟨h.rs.take hk, by have := h.bd; omega⟩
/-- s[:k]. -/
theorem slice_h {K : Nat → Prop} {w : World} {a : Option Addr} {n c k : Nat} {l : List Ent} (h : ES K w a n c l) (hk : k ≤ n) (W : World) :
    (Instr.sliceAt 31 (.slice a n c) none (some (.int .i64 (k : Int))) none).run Tryd.prog W = .ok (.slice a k c) W := by
  have hle := h.rs.le
  rw [run_sliceAt_slice _ _ _ _ _ _ elemE, run_slice_h _ _ a n c elemE .i64 (k : Int) (by omega) (by omega), sizeOfE, Result.andThen_ok]
  unfold sliced
  simp only [Int.toNat_natCast, Nat.sub_zero, Nat.zero_mul]
  cases a with
  | none => simp
  | some ad =>
    have : ad.add 0 = ad := by unfold Addr.add; cases ad; simp
    simp [this]
/-- s[i:i+1]. -/
theorem slice_mid {K : Nat → Prop} {w : World} {a : Option Addr} {n c i : Nat} {l : List Ent} {e : Ent} (h : ES K w a n c l) (hi : l[i]? = some e) :
    ∃ a', (∀ W, (Instr.sliceAt 31 (.slice a n c) (some (.int .i64 (i : Int))) (some (.int .i64 ((i : Int) + 1))) none).run Tryd.prog W = .ok (.slice a' 1 (c - i)) W) ∧ ES K w a' 1 (c - i) [e] := by
  have hle := h.rs.le
  have hin : i < n := by have := (List.getElem?_eq_some_iff.1 hi).1; rw [h.rs.len] at this; exact this
  obtain ⟨b, off, _, rfl, _⟩ := h.rs.get hi
  refine ⟨some ⟨b, off + i * 35, none⟩, fun W => ?_, ?_⟩
  · rw [run_sliceAt_slice _ _ _ _ _ _ elemE, run_slice_lh _ _ _ n c elemE .i64 .i64 (i : Int) ((i : Int) + 1) (by omega) (by omega) (by omega), sizeOfE, Result.andThen_ok]
    unfold sliced
    rw [show ((i : Int) + 1).toNat = i + 1 by omega, Int.toNat_natCast, if_neg (by omega), Nat.add_sub_cancel_left]
    simp [Addr.add]
  · have hc := (ES.mk (h.rs.cut (k := i) (by omega)) (by have := h.bd; omega)).take (k := 1) (by omega)
    rw [if_neg (by omega)] at hc
    rw [List.drop_eq_getElem_cons (by rw [h.rs.len]; exact hin)] at hc
    simp only [List.take_succ_cons, List.take_zero] at hc
    rwa [show l[i]'(by rw [h.rs.len]; exact hin) = e from Option.some.inj ((List.getElem?_eq_getElem _).symm.trans hi)] at hc
end Go.Proofs.YtiionehcmoginaaDoor
namespace Go.Proofs.YtiionehcmoginaaDoor
open Go.RowKit Go.Mem Go.Shelf
open Go.Sto (Ent)
open Go.Vw (entT Hd Fk Sg)
theorem openB_iff {id pv fo : Int} (h : OpenB id pv fo = true) : (0 ≤ id ∧ id < 4) ∧ keyOk pv = true ∧ (0 ≤ fo ∧ fo < 16) ∧ Sto.openE ⟨id, pv, []⟩ fo = 0 := by
  unfold OpenB at h
  simp only [Bool.and_eq_true, decide_eq_true_iff] at h
  obtain ⟨⟨⟨h1, h2⟩, h3⟩, h4⟩ := h
  have hid : 0 ≤ id ∧ id < 4 := by
    unfold Sto.newE at h1
    split at h1
    · assumption
    · cases h1
  refine ⟨hid, h2, ⟨h3, h4⟩, ?_⟩
  have hc : Sto.chkS ⟨id, pv, []⟩ = 0 := by unfold Sto.chkS; exact if_pos ⟨h1, rfl⟩
  have hf : Sto.folderB fo = true := decide_eq_true ⟨h3, h4⟩
  unfold Sto.openE
  rw [if_pos hc, if_pos hf]
/-- the head that an open store signs for a list, and the contract of Sign there. -/
theorem sign_for {id pv fo : Int} (h : OpenB id pv fo = true) (hfo : I64 fo) {es : List Ent} {n : Nat} (hn : n ≤ 65536) (hl : es.length = n) (hok : ∀ e ∈ es, OkE e) :
    ∃ k : Hd, OkH k ∧ Sg id fo (pubB 4 pv) (es.map (·.dig)) k ∧ ∀ (a : Option Addr) (c : Nat) (W : World), Tabs W → ES (fun _ => True) W a n c es →
      Calls Tryd.prog 17 #[.agg #[.int .i64 id, .int .i64 pv, .slice none 0 0], .int .i64 fo, .slice a n c] W (SignHPost (hdC k) 0 W) := by
  obtain ⟨h1, h2, h3, h4⟩ := openB_iff h
  obtain ⟨k, okk, ek, sk⟩ := sign_hd ⟨id, pv, []⟩ fo n (es.map (·.dig)) h2 h1 h3 hn (by rw [List.length_map]; exact hl)
  refine ⟨k, okk, sk, fun a c W hT hE => ?_⟩
  have hpv : I64 pv := by
    have := of_decide_eq_true h2
    exact ⟨by omega, by omega⟩
  have hsv : SV (fun _ => True) W none 0 0 ⟨id, pv, []⟩ := ⟨LS.nil0 _ _, ⟨by have := h1.1; show _ ≤ id; omega, by have := h1.2; show id ≤ _; omega⟩, hpv⟩
  have := storeSign_any none 0 0 ⟨id, pv, []⟩ fo hfo (fun _ => True) a n c es hok hn W hT hsv hE h4
  rw [← ek] at this
  exact this
theorem okE_ents {l : List ByteArray} (hs : shortB l = true) : ∀ e ∈ l.map entT, OkE e := fun e he => by
  obtain ⟨s, hs', rfl⟩ := List.mem_map.1 he
  exact okE_text (short_mem hs s hs')
theorem eq_digs {x y : List Nat} (hx : x.length = 32 ∧ ∀ u ∈ x, u < 256) (hy : y.length = 32 ∧ ∀ u ∈ y, u < 256) (W : World) : (Op.equalIn 10000 42 (.agg (bv x).toArray) (.agg (bv y).toArray)).run Tryd.prog W = .ok (decide (x = y)) W := eq_dig hx hy W
/-- the digests of a part of a list. -/
theorem digs_at {a : Option Addr} {n c : Nat} {es : List Ent} (w : World) (H : ES (fun _ => True) w a n c es) :
    Calls Tryd.prog 15 #[.slice a n c] w (fun e w' => ∃ a c, e = .returned (.slice a n c) ∧ DS w' a n c (es.map (·.dig)) ∧ Below w.heap.size w w') := by
  refine (digs32_any (fun _ => True) a n c es w H).mono fun e w' ⟨a', c', he, hD, hb⟩ => ?_
  have hl : (es.map (·.dig)).length = n := by rw [List.length_map]; exact H.rs.len
  rw [hl] at he hD
  exact ⟨a', c', he, hD, hb⟩
end Go.Proofs.YtiionehcmoginaaDoor
