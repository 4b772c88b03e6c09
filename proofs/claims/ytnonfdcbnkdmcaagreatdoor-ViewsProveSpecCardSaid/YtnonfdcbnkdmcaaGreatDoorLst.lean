/- entries and logs of a store in memory; store.clones store.clones -/
import Derived.Test.YtnonfdcbnkdmcaaGreatDoorIns
import Derived.Test.YtnonfdcbnkdmcaaGreatDoorStPlain
import Derived.Test.YtnonfdcbnkdmcaaGreatDoorTag
import Derived.Test.YtnonfdcbnkdmcaaGreatDoorShelf
namespace Go.Proofs.YtnonfdcbnkdmcaaGreatDoor
open Go.RowKit Go.Mem
open Go.Sto (Ent Lg)

def entC (e : Ent) (a : Option Addr) (n c : Nat) : List Value := .int .i64 e.kind :: (bv e.dig ++ [.slice a n c, .bool e.gone])
structure OkE (e : Ent) : Prop where
 dig : e.dig.length = 32
 lt : ∀ u ∈ e.dig, u < 256
 lo : -9223372036854775808 ≤ e.kind
 hi : e.kind ≤ 9223372036854775807
 data : e.data.length ≤ 1000000
def EV (K : Nat → Prop) (w : World) (e : Ent) (r : List Value) : Prop := OkE e ∧ ∃ a n c, r = entC e a n c ∧ BK K w a n c e.data
structure ES (K : Nat → Prop) (w : World) (a : Option Addr) (n c : Nat) (l : List Ent) : Prop where
 rs : RS 35 (EV K) K w a n c l
 bd : n ≤ 100000

theorem entC_length {e : Ent} (h : e.dig.length = 32) (a : Option Addr) (n c : Nat) : (entC e a n c).length = 35 := by simp [entC, bv_length, h]
theorem entC_one (e : Ent) (a : Option Addr) (n c : Nat) : ∀ u ∈ entC e a n c, u.oneCell' = true := by
 intro u hu
 simp only [entC, List.mem_cons, List.mem_append, List.not_mem_nil, or_false] at hu
 rcases hu with rfl | hu | rfl | rfl
 · rfl
 · exact bv_one _ u hu
 · rfl
 · rfl
theorem entC_kind (e : Ent) (a : Option Addr) (n c : Nat) : (entC e a n c)[0]? = some (.int .i64 e.kind) := rfl
theorem entC_dig {e : Ent} {j x : Nat} (h : e.dig[j]? = some x) (a : Option Addr) (n c : Nat) : (entC e a n c)[j + 1]? = some (.int .u8 (x : Int)) := by
 have hj := (List.getElem?_eq_some_iff.1 h).1
 rw [entC, List.getElem?_cons_succ, List.getElem?_append_left (by rw [bv_length]; exact hj)]
 exact bv_get h
theorem entC_data {e : Ent} (h : e.dig.length = 32) (a : Option Addr) (n c : Nat) : (entC e a n c)[33]? = some (.slice a n c) := by
 rw [entC, List.getElem?_cons_succ, List.getElem?_append_right (by rw [bv_length, h]; exact Nat.le_refl _), bv_length, h]
 rfl
theorem entC_gone {e : Ent} (h : e.dig.length = 32) (a : Option Addr) (n c : Nat) : (entC e a n c)[34]? = some (.bool e.gone) := by
 rw [entC, List.getElem?_cons_succ, List.getElem?_append_right (by rw [bv_length, h]; omega), bv_length, h]
 rfl
theorem entC_set {e : Ent} (h : e.dig.length = 32) (a a' : Option Addr) (n c n' c' : Nat) : (entC e a n c).set 33 (.slice a' n' c') = entC e a' n' c' := by
 rw [entC, List.set_cons_succ, List.set_append_right _ _ (by rw [bv_length, h]; exact Nat.le_refl _), bv_length, h]
 rfl

section
variable {K K' : Nat → Prop} {w w' : World} {a : Option Addr} {n c : Nat} {l : List Ent}
theorem EV.keep {e : Ent} {r : List Value} (h : EV K w e r) (hk : Keeps K w w') : EV K w' e r := by
 obtain ⟨ho, a, n, c, hr, hb⟩ := h
 exact ⟨ho, a, n, c, hr, hb.keep hk⟩
theorem EV.imp {e : Ent} {r : List Value} (h : EV K w e r) (hK : ∀ b, b < w.heap.size → K b → K' b) : EV K' w e r := by
 obtain ⟨ho, a, n, c, hr, hb⟩ := h
 exact ⟨ho, a, n, c, hr, hb.imp hK⟩
theorem EV.one {e : Ent} {r : List Value} (h : EV K w e r) : ∀ u ∈ r, u.oneCell' = true := by
 obtain ⟨_, a, n, c, rfl, _⟩ := h
 exact entC_one _ _ _ _
theorem EV.len {e : Ent} {r : List Value} (h : EV K w e r) : r.length = 35 := by
 obtain ⟨ho, a, n, c, rfl, _⟩ := h
 exact entC_length ho.dig _ _ _
theorem ES.keep (h : ES K w a n c l) (hk : Keeps K w w') : ES K w' a n c l := ⟨h.rs.keep hk fun _ _ hr => hr.keep hk, h.bd⟩
theorem ES.below (h : ES K w a n c l) (hb : Below w.heap.size w w') : ES K w' a n c l := h.keep (.below hb)
theorem ES.imp (h : ES K w a n c l) (hK : ∀ b, b < w.heap.size → K b → K' b) : ES K' w a n c l := ⟨h.rs.imp hK fun _ _ hr => hr.imp hK, h.bd⟩
theorem ES.nil0 (K : Nat → Prop) (w : World) : ES K w none 0 0 [] := ⟨.nil0 _ K w, Nat.zero_le _⟩
theorem rows_one {α : Type} {s : Nat} {R : α → List Value → Prop} {l : List α} {rows : List (List Value)} (h : RowsOf s R l rows) (h1 : ∀ e r, R e r → ∀ u ∈ r, u.oneCell' = true) : ∀ u ∈ rows.flatten, u.oneCell' = true := by
 intro u hu
 obtain ⟨r, hr, hur⟩ := List.mem_flatten.1 hu
 obtain ⟨i, hi⟩ := List.mem_iff_getElem?.1 hr
 have hil := (List.getElem?_eq_some_iff.1 hi).1
 rw [h.len] at hil
 exact h1 _ _ (h.each i l[i] r (List.getElem?_eq_getElem hil) hi) u hur
end

theorem bclone_any (a : Option Addr) (n c : Nat) (l : List Nat) (w : World) (H : BW w a n c l) (hn : n ≤ 140737488355328) :
 Calls Tryz.prog 165 #[.slice a n c] w fun e w' => ∃ a' c', e = .returned (.slice a' n c') ∧ BK (fun b => w.heap.size ≤ b) w' a' n c' l ∧ Below w.heap.size w w' := by
 cases a with
 | none =>
  obtain ⟨rfl, rfl⟩ := H.none.nil rfl
  refine (Tryz.bytes_Clone_nil 0 0 w).mono ?_
  rintro e w' ⟨rfl, rfl⟩
  exact ⟨none, 0, rfl, BK.of H.none (fun ad e => by (cases e)), Below.refl _ _⟩
 | some ad =>
  have hlen := H.len
  refine (Tryz.bytes_Clone_at ad n c (l.map fun (x : Nat) => (x : Int)) w (by simpa using hlen) hn (fun i hi => ?_)).mono ?_
  · have hil : i < l.length := by omega
    rw [H.news i _ (bv_get (List.getElem?_eq_getElem hil))]
    simp [List.getElem?_eq_getElem hil]
  · rintro e w' ⟨v, rfl, hown, _, hb'⟩
    rw [show (l.map fun (x : Nat) => (x : Int)).map (Value.int .u8) = bv l by simp [bv]] at hown
    obtain ⟨a', c', rfl, hB⟩ := BS.own hown H.lt
    refine ⟨a', c', rfl, BK.of hB (fun ad e => ?_), hb'⟩
    obtain ⟨_, _, hv, _, h3⟩ := Sl.of_owns hown
    cases hv
    exact (h3 ad e).1
end Go.Proofs.YtnonfdcbnkdmcaaGreatDoor
namespace Go.Proofs.YtnonfdcbnkdmcaaGreatDoor
open Go.RowKit Go.Mem
open Go.Sto (Ent Lg)

def ClK (w0 g k i b : Nat) : Prop := b ≠ g ∧ (i < k → w0 ≤ b)
structure ClI (w : World) (g : Nat) (l : List Ent) (rest : List Value) (k : Nat) (wr : World) : Prop where
 ex : ∃ rows : List (List Value), Blk wr g 75 (rows.flatten ++ rest) ∧ rows.length = l.length ∧ (∀ r ∈ rows, r.length = 35) ∧ ∀ (i : Nat) e r, l[i]? = some e → rows[i]? = some r → EV (ClK w.heap.size g k i) wr e r
 below : Below w.heap.size w wr
 hg : w.heap.size ≤ g

section
variable {w wr w2 : World} {g k : Nat} {l : List Ent} {rest : List Value} {e : Ent}
theorem ClI.get (h : ClI w g l rest k wr) (he : l[k]? = some e) : ∃ a n c, OkE e ∧ BW wr a n c e.data ∧ wr.cell? ⟨g, k * 35 + 33, none⟩ = some (.slice a n c) ∧ wr.frozen? ⟨g, k * 35 + 33, none⟩ = false := by
 obtain ⟨rows, hB, hl, hs, hr⟩ := h.ex
 have hk : k < rows.length := by rw [hl]; exact (List.getElem?_eq_some_iff.1 he).1
 obtain ⟨ho, a, n, c, er, hb⟩ := hr k e rows[k] he (List.getElem?_eq_getElem hk)
 refine ⟨a, n, c, ho, hb.bs, hB.at_ ?_, hB.frozen _⟩
 have := flat_get (i := k) (j := 33) hs (List.getElem?_eq_getElem hk) (u := .slice a n c) (by rw [er]; exact entC_data ho.dig _ _ _)
 rw [List.getElem?_append_left (List.getElem?_eq_some_iff.1 this).1]
 exact this
theorem ClI.cell2 (h : ClI w g l rest k wr) (hb : Below wr.heap.size wr w2) {p : Nat} {v : Value} (hc : wr.cell? ⟨g, p, none⟩ = some v) (_hf : wr.frozen? ⟨g, p, none⟩ = false) : w2.cell? ⟨g, p, none⟩ = some v ∧ w2.frozen? ⟨g, p, none⟩ = false := by
 obtain ⟨rows, hB, _⟩ := h.ex
 exact ⟨(hb.cell (p := ⟨g, p, none⟩) hB.lt).trans hc, (hB.below hb hB.lt).frozen p⟩
theorem ClI.step (h : ClI w g l rest k wr) (he : l[k]? = some e) (hb : Below wr.heap.size wr w2) {a' : Option Addr} {n' c' : Nat} (hd : BK (fun b => wr.heap.size ≤ b) w2 a' n' c' e.data) : ClI w g l rest (k + 1) (w2.setCell ⟨g, k * 35 + 33, none⟩ (.slice a' n' c')) := by
 obtain ⟨rows, hB, hl, hs, hr⟩ := h.ex
 have hk : k < rows.length := by rw [hl]; exact (List.getElem?_eq_some_iff.1 he).1
 have hrk : rows[k]? = some rows[k] := List.getElem?_eq_getElem hk
 obtain ⟨ho, a, n, c, er, _⟩ := hr k e rows[k] he hrk
 have hsize := h.below.size
 have hkeep : Keeps (fun b => b ≠ g) w2 (w2.setCell ⟨g, k * 35 + 33, none⟩ (.slice a' n' c')) := ⟨by simp [World.setCell], fun b _ hbg => Below.heap_setCell w2 ⟨g, k * 35 + 33, none⟩ _ b hbg⟩
 refine ⟨⟨rows.set k (rows[k].set 33 (.slice a' n' c')), ?_, by simpa using hl, ?_, ?_⟩, ?_, h.hg⟩
 · have := (hB.below hb hB.lt).set (k * 35 + 33) (.slice a' n' c')
   rw [List.set_append_left _ _ (by rw [flat_len hs]; omega)] at this
   rw [flat_set _ hs hrk (by omega)]
   exact this
 · intro r hr'
   rcases List.mem_or_eq_of_mem_set hr' with hr' | rfl
   · exact hs r hr'
   · rw [List.length_set]; exact hs _ (List.getElem_mem hk)
 · intro i e' r' he' hr'
   by_cases hik : i = k
   · subst hik
     rw [List.getElem?_set_self hk] at hr'
     rw [he] at he'
     cases he'; cases hr'
     rw [er, entC_set ho.dig]
     refine ⟨ho, a', n', c', rfl, (hd.imp (K' := ClK w.heap.size g (i + 1) i) fun b _ hb2 => ⟨?_, fun _ => Nat.le_trans hsize hb2⟩).keep (hkeep.imp fun b hb2 => hb2.1)⟩
     have := hB.lt
     omega
   · rw [List.getElem?_set_ne (Ne.symm hik)] at hr'
     have h1 := (hr i e' r' he' hr').keep (.below hb)
     exact (h1.keep (hkeep.imp fun b hb2 => hb2.1)).imp fun b _ hb2 => ⟨hb2.1, fun hi => hb2.2 (by omega)⟩
 · exact (h.below.trans (hb.mono hsize)).setCell h.hg _
theorem ClI.done (h : ClI w g l rest l.length wr) {cap : Nat} (hc : l.length ≤ cap) (hcm : cap ≤ maxLen) (hn : l.length ≤ 100000) : ES (fun b => w.heap.size ≤ b) wr (some ⟨g, 0, none⟩) l.length cap l := by
 obtain ⟨rows, hB, hl, hs, hr⟩ := h.ex
 refine ⟨⟨rfl, fun _ ad e => by cases e; exact h.hg, rows, ⟨by rw [flat_len hs, hl], hc, hcm, fun e => (by cases e), fun _ => ⟨g, 0, rfl, hB.lt, fun j u hj => hB.at_ ?_⟩⟩, hl, hs, fun i e r he hre => ?_⟩, hn⟩
 · rw [Nat.zero_add, List.getElem?_append_left (List.getElem?_eq_some_iff.1 hj).1]
   exact hj
 · exact (hr i e r he hre).imp fun b _ hb => hb.2 (List.getElem?_eq_some_iff.1 he).1
end

def ESPost (n : Nat) (l : List Ent) (w : World) (e : Ending) (w' : World) : Prop := ∃ a c, e = .returned (.slice a n c) ∧ ES (fun b => w.heap.size ≤ b) w' a n c l ∧ Below w.heap.size w w'

set_option maxRecDepth 20000 in
set_option maxHeartbeats 1000000 in
theorem clones_any (K : Nat → Prop) (a : Option Addr) (n c : Nat) (l : List Ent) (w : World) (H : ES K w a n c l) :
 Calls Tryz.prog 112 #[.slice a n c] w (ESPost n l w) := by
 obtain ⟨rows, hR, hO⟩ := H.rs.rows
 have hbd := H.bd
 have hlen := H.rs.len
 have hcl := Lib.hid (cloneE_any a n c rows.flatten w hR (rows_one hO fun _ _ h => EV.one h) (by omega))
 rcases Nat.eq_zero_or_pos n with h0 | hpos
 · subst h0
   have hl0 : l = [] := List.eq_nil_of_length_eq_zero hlen
   subst hl0
   clear hR
   go_enter Tryz.func112, Tryz.ntmps112
   go_wp2_with fail
   refine hcl.out.mono ?_
   rintro e w1 ⟨v, rfl, hown, hb⟩
   obtain ⟨a', c', rfl, hR', hsep⟩ := Sl.of_owns hown
   have hfin : Hid (ES (fun b => w.heap.size ≤ b) w1 a' 0 c' []) := ⟨⟨rfl, fun _ ad e => (hsep ad e).1, [], ⟨by simp, hR'.le, hR'.max, hR'.nil, fun h => absurd h (by omega)⟩, RowsOf.nil⟩, Nat.zero_le _⟩
   clear hown hR' hsep hcl hO H
   go_wp2_with fail
   go_loopw [8] (fun i wr => i = .int .i64 0 ∧ wr = w1) (fun _ _ => 0)
   case atStart => exact ⟨rfl, rfl⟩
   case round =>
    obtain ⟨rfl, rfl⟩ := hrel
    go_wp2_with fail
    go_ret
    exact ⟨a', c', rfl, hfin.out, hb⟩
 · have hn1 : (n : Int) ≤ 100000 := by omega
   go_enter Tryz.func112, Tryz.ntmps112
   go_wp2_with fail
   refine hcl.out.mono ?_
   rintro e w1 ⟨v, rfl, hown, hb⟩
   obtain ⟨g, cap, rest, rfl, hg, hgl, hgb, hcap, hcm, hl2⟩ := Sl.owns_row hown hpos
   have hI : Hid (ClI w g l rest 0 w1) := ⟨⟨rows, hgb, hO.len, hO.size, fun i e r he hr => ((hO.each i e r he hr).imp fun b hb2 _ => ⟨by omega, fun h => absurd h (by omega)⟩).keep (.below hb)⟩, hb, hg⟩
   clear hown hcl hR hgb hl2
   go_wp2_with fail
   go_loopw [8] (fun i wr => ∃ k : Nat, k ≤ n ∧ i = .int .i64 k ∧ Hid (ClI w g l rest k wr)) (fun i _ => n - (intOf i).toNat)
   case atStart => exact ⟨0, Nat.zero_le _, rfl, hI⟩
   case round =>
    obtain ⟨k, hk, rfl, hI⟩ := hrel
    by_cases hlt : k < n
    · have hkl : k < l.length := by omega
      obtain ⟨e, he⟩ : ∃ e, l[k]? = some e := ⟨_, List.getElem?_eq_getElem hkl⟩
      obtain ⟨da, dn, dc, ho, hbs, c0, f0⟩ := hI.out.get he
      have hbc := Lib.hid (bclone_any da dn dc e.data wr hbs (by have := hbs.len; have := ho.data; omega))
      have he' := Lib.hid he
      have k0 : (0 : Int) ≤ (k : Int) := by omega
      have k1 : (k : Int) < (n : Int) := by omega
      clear he hbs hb
      go_wp2_with fail
      refine hbc.out.mono ?_
      rintro _ w2 ⟨a', c', rfl, hd, hb2⟩
      obtain ⟨c1, f1⟩ := hI.out.cell2 hb2 c0 f0
      have hI2 := Lib.hid (hI.out.step he'.out hb2 hd)
      clear hbc hI c0 f0 hd hb2
      go_wp2_with fail
      go_roundw
      case rel => exact ⟨k + 1, by omega, by go_num, hI2⟩
      case measure => simp [intOf]; omega
    · obtain rfl : k = n := by omega
      have hfin : Hid (ESPost k l w (.returned (.slice (some ⟨g, 0, none⟩) k cap)) wr) := ⟨_, cap, rfl, by subst hlen; exact hI.out.done hcap hcm hbd, hI.out.below⟩
      clear hI
      go_wp2_with fail
      go_ret
      exact hfin.out
end Go.Proofs.YtnonfdcbnkdmcaaGreatDoor
