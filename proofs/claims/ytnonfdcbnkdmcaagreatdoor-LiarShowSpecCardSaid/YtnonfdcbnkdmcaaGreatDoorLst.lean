/- entries and logs of a store in memory; store.clones store.clones logs and stores in memory; store.copied store.copied slices.BinarySearchFunc at []api.Log; (*store.book).log, .entries (*store.book).replace -/
import Derived.Test.YtnonfdcbnkdmcaaGreatDoorAl
import Derived.Test.YtnonfdcbnkdmcaaGreatDoorRow
import Derived.Test.YtnonfdcbnkdmcaaGreatDoorStPlain
import Derived.Test.YtnonfdcbnkdmcaaGreatDoorTag
import Derived.Test.YtnonfdcbnkdmcaaGreatDoorShelf
import Derived.Deep.RegionHeld3
import Derived.Laws.ResultCell
import Derived.Test.YtnonfdcbnkdmcaaGreatDoorSgn3
namespace Go.Proofs.YtnonfdcbnkdmcaaGreatDoor
open Go.RowKit Go.Mem
open Go.Sto (Ent Lg)

def entC (e : Ent) (a : Option Addr) (n c : Nat) : List Value := .int .i64 e.kind :: (bv e.dig ++ [.slice a n c, .bool e.gone])
structure OkE (e : Ent) : Prop where
 dig : e.dig.length = 32
 lt : ∀ u ∈ e.dig, u < 256
 lo : -9223372036854775808 ≤ e.kind
 hi : e.kind ≤ 9223372036854775807
 data : e.data.length ≤ 1000000
def EV (K : Nat → Prop) (w : World) (e : Ent) (r : List Value) : Prop := OkE e ∧ ∃ a n c, r = entC e a n c ∧ BK K w a n c e.data
structure ES (K : Nat → Prop) (w : World) (a : Option Addr) (n c : Nat) (l : List Ent) : Prop where
 rs : RS 35 (EV K) K w a n c l
 bd : n ≤ 100000

theorem entC_length {e : Ent} (h : e.dig.length = 32) (a : Option Addr) (n c : Nat) : (entC e a n c).length = 35 := by simp [entC, bv_length, h]
theorem entC_one (e : Ent) (a : Option Addr) (n c : Nat) : ∀ u ∈ entC e a n c, u.oneCell' = true := by
 intro u hu
 simp only [entC, List.mem_cons, List.mem_append, List.not_mem_nil, or_false] at hu
 rcases hu with rfl | hu | rfl | rfl
 · rfl
 · exact bv_one _ u hu
 · rfl
 · rfl
theorem entC_kind (e : Ent) (a : Option Addr) (n c : Nat) : (entC e a n c)[0]? = some (.int .i64 e.kind) := rfl
theorem entC_dig {e : Ent} {j x : Nat} (h : e.dig[j]? = some x) (a : Option Addr) (n c : Nat) : (entC e a n c)[j + 1]? = some (.int .u8 (x : Int)) := by
 have hj := (List.getElem?_eq_some_iff.1 h).1
 rw [entC, List.getElem?_cons_succ, List.getElem?_append_left (by rw [bv_length]; exact hj)]
 exact bv_get h
theorem entC_data {e : Ent} (h : e.dig.length = 32) (a : Option Addr) (n c : Nat) : (entC e a n c)[33]? = some (.slice a n c) := by
 rw [entC, List.getElem?_cons_succ, List.getElem?_append_right (by rw [bv_length, h]; exact Nat.le_refl _), bv_length, h]
 rfl
theorem entC_gone {e : Ent} (h : e.dig.length = 32) (a : Option Addr) (n c : Nat) : (entC e a n c)[34]? = some (.bool e.gone) := by
 rw [entC, List.getElem?_cons_succ, List.getElem?_append_right (by rw [bv_length, h]; omega), bv_length, h]
 rfl
theorem entC_set {e : Ent} (h : e.dig.length = 32) (a a' : Option Addr) (n c n' c' : Nat) : (entC e a n c).set 33 (.slice a' n' c') = entC e a' n' c' := by
 rw [entC, List.set_cons_succ, List.set_append_right _ _ (by rw [bv_length, h]; exact Nat.le_refl _), bv_length, h]
 rfl

section
variable {K K' : Nat → Prop} {w w' : World} {a : Option Addr} {n c : Nat} {l : List Ent}
theorem EV.keep {e : Ent} {r : List Value} (h : EV K w e r) (hk : Keeps K w w') : EV K w' e r := by
 obtain ⟨ho, a, n, c, hr, hb⟩ := h
 exact ⟨ho, a, n, c, hr, hb.keep hk⟩
theorem EV.imp {e : Ent} {r : List Value} (h : EV K w e r) (hK : ∀ b, b < w.heap.size → K b → K' b) : EV K' w e r := by
 obtain ⟨ho, a, n, c, hr, hb⟩ := h
 exact ⟨ho, a, n, c, hr, hb.imp hK⟩
theorem EV.one {e : Ent} {r : List Value} (h : EV K w e r) : ∀ u ∈ r, u.oneCell' = true := by
 obtain ⟨_, a, n, c, rfl, _⟩ := h
 exact entC_one _ _ _ _
theorem EV.len {e : Ent} {r : List Value} (h : EV K w e r) : r.length = 35 := by
 obtain ⟨ho, a, n, c, rfl, _⟩ := h
 exact entC_length ho.dig _ _ _
theorem ES.keep (h : ES K w a n c l) (hk : Keeps K w w') : ES K w' a n c l := ⟨h.rs.keep hk fun _ _ hr => hr.keep hk, h.bd⟩
theorem ES.below (h : ES K w a n c l) (hb : Below w.heap.size w w') : ES K w' a n c l := h.keep (.below hb)
theorem ES.imp (h : ES K w a n c l) (hK : ∀ b, b < w.heap.size → K b → K' b) : ES K' w a n c l := ⟨h.rs.imp hK fun _ _ hr => hr.imp hK, h.bd⟩
theorem ES.nil0 (K : Nat → Prop) (w : World) : ES K w none 0 0 [] := ⟨.nil0 _ K w, Nat.zero_le _⟩
theorem rows_one {α : Type} {s : Nat} {R : α → List Value → Prop} {l : List α} {rows : List (List Value)} (h : RowsOf s R l rows) (h1 : ∀ e r, R e r → ∀ u ∈ r, u.oneCell' = true) : ∀ u ∈ rows.flatten, u.oneCell' = true := by
 intro u hu
 obtain ⟨r, hr, hur⟩ := List.mem_flatten.1 hu
 obtain ⟨i, hi⟩ := List.mem_iff_getElem?.1 hr
 have hil := (List.getElem?_eq_some_iff.1 hi).1
 rw [h.len] at hil
 exact h1 _ _ (h.each i l[i] r (List.getElem?_eq_getElem hil) hi) u hur
end

theorem bclone_any (a : Option Addr) (n c : Nat) (l : List Nat) (w : World) (H : BW w a n c l) (hn : n ≤ 140737488355328) :
 Calls Tryz.prog 165 #[.slice a n c] w fun e w' => ∃ a' c', e = .returned (.slice a' n c') ∧ BK (fun b => w.heap.size ≤ b) w' a' n c' l ∧ Below w.heap.size w w' := by
 cases a with
 | none =>
  obtain ⟨rfl, rfl⟩ := H.none.nil rfl
  refine (Tryz.bytes_Clone_nil 0 0 w).mono ?_
  rintro e w' ⟨rfl, rfl⟩
  exact ⟨none, 0, rfl, BK.of H.none (fun ad e => by (cases e)), Below.refl _ _⟩
 | some ad =>
  have hlen := H.len
  refine (Tryz.bytes_Clone_at ad n c (l.map fun (x : Nat) => (x : Int)) w (by simpa using hlen) hn (fun i hi => ?_)).mono ?_
  · have hil : i < l.length := by omega
    rw [H.news i _ (bv_get (List.getElem?_eq_getElem hil))]
    simp [List.getElem?_eq_getElem hil]
  · rintro e w' ⟨v, rfl, hown, _, hb'⟩
    rw [show (l.map fun (x : Nat) => (x : Int)).map (Value.int .u8) = bv l by simp [bv]] at hown
    obtain ⟨a', c', rfl, hB⟩ := BS.own hown H.lt
    refine ⟨a', c', rfl, BK.of hB (fun ad e => ?_), hb'⟩
    obtain ⟨_, _, hv, _, h3⟩ := Sl.of_owns hown
    cases hv
    exact (h3 ad e).1
end Go.Proofs.YtnonfdcbnkdmcaaGreatDoor
namespace Go.Proofs.YtnonfdcbnkdmcaaGreatDoor
open Go.RowKit Go.Mem
open Go.Sto (Ent Lg)

def ClK (w0 g k i b : Nat) : Prop := b ≠ g ∧ (i < k → w0 ≤ b)
structure ClI (w : World) (g : Nat) (l : List Ent) (rest : List Value) (k : Nat) (wr : World) : Prop where
 ex : ∃ rows : List (List Value), Blk wr g 75 (rows.flatten ++ rest) ∧ rows.length = l.length ∧ (∀ r ∈ rows, r.length = 35) ∧ ∀ (i : Nat) e r, l[i]? = some e → rows[i]? = some r → EV (ClK w.heap.size g k i) wr e r
 below : Below w.heap.size w wr
 hg : w.heap.size ≤ g

section
variable {w wr w2 : World} {g k : Nat} {l : List Ent} {rest : List Value} {e : Ent}
theorem ClI.get (h : ClI w g l rest k wr) (he : l[k]? = some e) : ∃ a n c, OkE e ∧ BW wr a n c e.data ∧ wr.cell? ⟨g, k * 35 + 33, none⟩ = some (.slice a n c) ∧ wr.frozen? ⟨g, k * 35 + 33, none⟩ = false := by
 obtain ⟨rows, hB, hl, hs, hr⟩ := h.ex
 have hk : k < rows.length := by rw [hl]; exact (List.getElem?_eq_some_iff.1 he).1
 obtain ⟨ho, a, n, c, er, hb⟩ := hr k e rows[k] he (List.getElem?_eq_getElem hk)
 refine ⟨a, n, c, ho, hb.bs, hB.at_ ?_, hB.frozen _⟩
 have := flat_get (i := k) (j := 33) hs (List.getElem?_eq_getElem hk) (u := .slice a n c) (by rw [er]; exact entC_data ho.dig _ _ _)
 rw [List.getElem?_append_left (List.getElem?_eq_some_iff.1 this).1]
 exact this
theorem ClI.cell2 (h : ClI w g l rest k wr) (hb : Below wr.heap.size wr w2) {p : Nat} {v : Value} (hc : wr.cell? ⟨g, p, none⟩ = some v) (_hf : wr.frozen? ⟨g, p, none⟩ = false) : w2.cell? ⟨g, p, none⟩ = some v ∧ w2.frozen? ⟨g, p, none⟩ = false := by
 obtain ⟨rows, hB, _⟩ := h.ex
 exact ⟨(hb.cell (p := ⟨g, p, none⟩) hB.lt).trans hc, (hB.below hb hB.lt).frozen p⟩
theorem ClI.step (h : ClI w g l rest k wr) (he : l[k]? = some e) (hb : Below wr.heap.size wr w2) {a' : Option Addr} {n' c' : Nat} (hd : BK (fun b => wr.heap.size ≤ b) w2 a' n' c' e.data) : ClI w g l rest (k + 1) (w2.setCell ⟨g, k * 35 + 33, none⟩ (.slice a' n' c')) := by
 obtain ⟨rows, hB, hl, hs, hr⟩ := h.ex
 have hk : k < rows.length := by rw [hl]; exact (List.getElem?_eq_some_iff.1 he).1
 have hrk : rows[k]? = some rows[k] := List.getElem?_eq_getElem hk
 obtain ⟨ho, a, n, c, er, _⟩ := hr k e rows[k] he hrk
 have hsize := h.below.size
 have hkeep : Keeps (fun b => b ≠ g) w2 (w2.setCell ⟨g, k * 35 + 33, none⟩ (.slice a' n' c')) := ⟨by simp [World.setCell], fun b _ hbg => Below.heap_setCell w2 ⟨g, k * 35 + 33, none⟩ _ b hbg⟩
 refine ⟨⟨rows.set k (rows[k].set 33 (.slice a' n' c')), ?_, by simpa using hl, ?_, ?_⟩, ?_, h.hg⟩
 · have := (hB.below hb hB.lt).set (k * 35 + 33) (.slice a' n' c')
   rw [List.set_append_left _ _ (by rw [flat_len hs]; omega)] at this
   rw [flat_set _ hs hrk (by omega)]
   exact this
 · intro r hr'
   rcases List.mem_or_eq_of_mem_set hr' with hr' | rfl
   · exact hs r hr'
   · rw [List.length_set]; exact hs _ (List.getElem_mem hk)
 · intro i e' r' he' hr'
   by_cases hik : i = k
   · subst hik
     rw [List.getElem?_set_self hk] at hr'
     rw [he] at he'
     cases he'; cases hr'
     rw [er, entC_set ho.dig]
     refine ⟨ho, a', n', c', rfl, (hd.imp (K' := ClK w.heap.size g (i + 1) i) fun b _ hb2 => ⟨?_, fun _ => Nat.le_trans hsize hb2⟩).keep (hkeep.imp fun b hb2 => hb2.1)⟩
     have := hB.lt
     omega
   · rw [List.getElem?_set_ne (Ne.symm hik)] at hr'
     have h1 := (hr i e' r' he' hr').keep (.below hb)
     exact (h1.keep (hkeep.imp fun b hb2 => hb2.1)).imp fun b _ hb2 => ⟨hb2.1, fun hi => hb2.2 (by omega)⟩
 · exact (h.below.trans (hb.mono hsize)).setCell h.hg _
theorem ClI.done (h : ClI w g l rest l.length wr) {cap : Nat} (hc : l.length ≤ cap) (hcm : cap ≤ maxLen) (hn : l.length ≤ 100000) : ES (fun b => w.heap.size ≤ b) wr (some ⟨g, 0, none⟩) l.length cap l := by
 obtain ⟨rows, hB, hl, hs, hr⟩ := h.ex
 refine ⟨⟨rfl, fun _ ad e => by cases e; exact h.hg, rows, ⟨by rw [flat_len hs, hl], hc, hcm, fun e => (by cases e), fun _ => ⟨g, 0, rfl, hB.lt, fun j u hj => hB.at_ ?_⟩⟩, hl, hs, fun i e r he hre => ?_⟩, hn⟩
 · rw [Nat.zero_add, List.getElem?_append_left (List.getElem?_eq_some_iff.1 hj).1]
   exact hj
 · exact (hr i e r he hre).imp fun b _ hb => hb.2 (List.getElem?_eq_some_iff.1 he).1
end

def ESPost (n : Nat) (l : List Ent) (w : World) (e : Ending) (w' : World) : Prop := ∃ a c, e = .returned (.slice a n c) ∧ ES (fun b => w.heap.size ≤ b) w' a n c l ∧ Below w.heap.size w w'

set_option maxRecDepth 20000 in
set_option maxHeartbeats 1000000 in
theorem clones_any (K : Nat → Prop) (a : Option Addr) (n c : Nat) (l : List Ent) (w : World) (H : ES K w a n c l) :
 Calls Tryz.prog 112 #[.slice a n c] w (ESPost n l w) := by
 obtain ⟨rows, hR, hO⟩ := H.rs.rows
 have hbd := H.bd
 have hlen := H.rs.len
 have hcl := Lib.hid (cloneE_any a n c rows.flatten w hR (rows_one hO fun _ _ h => EV.one h) (by omega))
 rcases Nat.eq_zero_or_pos n with h0 | hpos
 · subst h0
   have hl0 : l = [] := List.eq_nil_of_length_eq_zero hlen
   subst hl0
   clear hR
   go_enter Tryz.func112, Tryz.ntmps112
   go_wp2_with fail
   refine hcl.out.mono ?_
   rintro e w1 ⟨v, rfl, hown, hb⟩
   obtain ⟨a', c', rfl, hR', hsep⟩ := Sl.of_owns hown
   have hfin : Hid (ES (fun b => w.heap.size ≤ b) w1 a' 0 c' []) := ⟨⟨rfl, fun _ ad e => (hsep ad e).1, [], ⟨by simp, hR'.le, hR'.max, hR'.nil, fun h => absurd h (by omega)⟩, RowsOf.nil⟩, Nat.zero_le _⟩
   clear hown hR' hsep hcl hO H
   go_wp2_with fail
   go_loopw [8] (fun i wr => i = .int .i64 0 ∧ wr = w1) (fun _ _ => 0)
   case atStart => exact ⟨rfl, rfl⟩
   case round =>
    obtain ⟨rfl, rfl⟩ := hrel
    go_wp2_with fail
    go_ret
    exact ⟨a', c', rfl, hfin.out, hb⟩
 · have hn1 : (n : Int) ≤ 100000 := by omega
   go_enter Tryz.func112, Tryz.ntmps112
   go_wp2_with fail
   refine hcl.out.mono ?_
   rintro e w1 ⟨v, rfl, hown, hb⟩
   obtain ⟨g, cap, rest, rfl, hg, hgl, hgb, hcap, hcm, hl2⟩ := Sl.owns_row hown hpos
   have hI : Hid (ClI w g l rest 0 w1) := ⟨⟨rows, hgb, hO.len, hO.size, fun i e r he hr => ((hO.each i e r he hr).imp fun b hb2 _ => ⟨by omega, fun h => absurd h (by omega)⟩).keep (.below hb)⟩, hb, hg⟩
   clear hown hcl hR hgb hl2
   go_wp2_with fail
   go_loopw [8] (fun i wr => ∃ k : Nat, k ≤ n ∧ i = .int .i64 k ∧ Hid (ClI w g l rest k wr)) (fun i _ => n - (intOf i).toNat)
   case atStart => exact ⟨0, Nat.zero_le _, rfl, hI⟩
   case round =>
    obtain ⟨k, hk, rfl, hI⟩ := hrel
    by_cases hlt : k < n
    · have hkl : k < l.length := by omega
      obtain ⟨e, he⟩ : ∃ e, l[k]? = some e := ⟨_, List.getElem?_eq_getElem hkl⟩
      obtain ⟨da, dn, dc, ho, hbs, c0, f0⟩ := hI.out.get he
      have hbc := Lib.hid (bclone_any da dn dc e.data wr hbs (by have := hbs.len; have := ho.data; omega))
      have he' := Lib.hid he
      have k0 : (0 : Int) ≤ (k : Int) := by omega
      have k1 : (k : Int) < (n : Int) := by omega
      clear he hbs hb
      go_wp2_with fail
      refine hbc.out.mono ?_
      rintro _ w2 ⟨a', c', rfl, hd, hb2⟩
      obtain ⟨c1, f1⟩ := hI.out.cell2 hb2 c0 f0
      have hI2 := Lib.hid (hI.out.step he'.out hb2 hd)
      clear hbc hI c0 f0 hd hb2
      go_wp2_with fail
      go_roundw
      case rel => exact ⟨k + 1, by omega, by go_num, hI2⟩
      case measure => simp [intOf]; omega
    · obtain rfl : k = n := by omega
      have hfin : Hid (ESPost k l w (.returned (.slice (some ⟨g, 0, none⟩) k cap)) wr) := ⟨_, cap, rfl, by subst hlen; exact hI.out.done hcap hcm hbd, hI.out.below⟩
      clear hI
      go_wp2_with fail
      go_ret
      exact hfin.out
end Go.Proofs.YtnonfdcbnkdmcaaGreatDoor
namespace Go.Proofs.YtnonfdcbnkdmcaaGreatDoor
open Go.RowKit Go.Mem
open Go.Sto (Ent Lg St)

def I64 (x : Int) : Prop := -9223372036854775808 ≤ x ∧ x ≤ 9223372036854775807
def logC (f : Int) (a : Option Addr) (n c : Nat) : List Value := [.int .i64 f, .slice a n c]
def LV (K : Nat → Prop) (w : World) (x : Lg) (r : List Value) : Prop := I64 x.folder ∧ ∃ a n c, r = logC x.folder a n c ∧ ES K w a n c x.es
structure LS (K : Nat → Prop) (w : World) (a : Option Addr) (n c : Nat) (l : List Lg) : Prop where
 rs : RS 2 (LV K) K w a n c l
 bd : n ≤ 100000
def stC (s : St) (a : Option Addr) (n c : Nat) : List Value := [.int .i64 s.id, .int .i64 s.priv, .slice a n c]
structure SV (K : Nat → Prop) (w : World) (a : Option Addr) (n c : Nat) (s : St) : Prop where
 ls : LS K w a n c s.logs
 id : I64 s.id
 priv : I64 s.priv

section
variable {K K' : Nat → Prop} {w w' : World} {a : Option Addr} {n c : Nat} {l : List Lg} {s : St}
theorem LV.keep {x : Lg} {r : List Value} (h : LV K w x r) (hk : Keeps K w w') : LV K w' x r := by
 obtain ⟨ho, a, n, c, hr, hb⟩ := h
 exact ⟨ho, a, n, c, hr, hb.keep hk⟩
theorem LV.imp {x : Lg} {r : List Value} (h : LV K w x r) (hK : ∀ b, b < w.heap.size → K b → K' b) : LV K' w x r := by
 obtain ⟨ho, a, n, c, hr, hb⟩ := h
 exact ⟨ho, a, n, c, hr, hb.imp hK⟩
theorem LV.one {x : Lg} {r : List Value} (h : LV K w x r) : ∀ u ∈ r, u.oneCell' = true := by
 obtain ⟨_, a, n, c, rfl, _⟩ := h
 intro u hu
 simp only [logC, List.mem_cons, List.not_mem_nil, or_false] at hu
 rcases hu with rfl | rfl <;> rfl
theorem LS.keep (h : LS K w a n c l) (hk : Keeps K w w') : LS K w' a n c l := ⟨h.rs.keep hk fun _ _ hr => hr.keep hk, h.bd⟩
theorem LS.below (h : LS K w a n c l) (hb : Below w.heap.size w w') : LS K w' a n c l := h.keep (.below hb)
theorem LS.imp (h : LS K w a n c l) (hK : ∀ b, b < w.heap.size → K b → K' b) : LS K' w a n c l := ⟨h.rs.imp hK fun _ _ hr => hr.imp hK, h.bd⟩
theorem LS.nil0 (K : Nat → Prop) (w : World) : LS K w none 0 0 [] := ⟨.nil0 _ K w, Nat.zero_le _⟩
theorem SV.below (h : SV K w a n c s) (hb : Below w.heap.size w w') : SV K w' a n c s := ⟨h.ls.below hb, h.id, h.priv⟩
theorem SV.keep (h : SV K w a n c s) (hk : Keeps K w w') : SV K w' a n c s := ⟨h.ls.keep hk, h.id, h.priv⟩
theorem SV.imp (h : SV K w a n c s) (hK : ∀ b, b < w.heap.size → K b → K' b) : SV K' w a n c s := ⟨h.ls.imp hK, h.id, h.priv⟩
end

end Go.Proofs.YtnonfdcbnkdmcaaGreatDoor
namespace Go.Proofs.YtnonfdcbnkdmcaaGreatDoor
open Go.RowKit Go.Mem
open Go.Sto (Ent Lg St)

theorem size26 : (Tryz.prog.info? 24).map (·.size) = some 3 := by kernel_rfl

def CpK (w0 g tb k i b : Nat) : Prop := b ≠ g ∧ b ≠ tb ∧ (i < k → w0 ≤ b)
structure CpI (w : World) (sb tb g : Nat) (s : St) (cap : Nat) (rest : List Value) (k : Nat) (wr : World) : Prop where
 ex : ∃ rows : List (List Value), Blk wr g 121 (rows.flatten ++ rest) ∧ rows.length = s.logs.length ∧ (∀ r ∈ rows, r.length = 2) ∧ ∀ (i : Nat) x r, s.logs[i]? = some x → rows[i]? = some r → LV (CpK w.heap.size g tb k i) wr x r
 sbB : Blk wr sb 24 (stC s (some ⟨g, 0, none⟩) s.logs.length cap)
 tbB : ∃ x0 x1 x2, Blk wr tb 24 [x0, x1, x2]
 below : Below w.heap.size w wr
 hg : w.heap.size ≤ g
 htb : w.heap.size ≤ tb
 ne : g ≠ sb ∧ g ≠ tb ∧ sb ≠ tb

section
variable {w wr w2 : World} {sb tb g k cap : Nat} {s : St} {rest : List Value} {x : Lg}
theorem CpI.get (h : CpI w sb tb g s cap rest k wr) (hx : s.logs[k]? = some x) : ∃ a n c, I64 x.folder ∧ ES (fun b => b ≠ g) wr a n c x.es ∧ wr.cell? ⟨g, k * 2 + 1, none⟩ = some (.slice a n c) ∧ wr.frozen? ⟨g, k * 2 + 1, none⟩ = false := by
 obtain ⟨rows, hB, hl, hs, hr⟩ := h.ex
 have hk : k < rows.length := by rw [hl]; exact (List.getElem?_eq_some_iff.1 hx).1
 obtain ⟨ho, a, n, c, er, hb⟩ := hr k x rows[k] hx (List.getElem?_eq_getElem hk)
 refine ⟨a, n, c, ho, hb.imp fun b _ hb => hb.1, hB.at_ ?_, hB.frozen _⟩
 have := flat_get (i := k) (j := 1) hs (List.getElem?_eq_getElem hk) (u := .slice a n c) (by rw [er]; rfl)
 rw [List.getElem?_append_left (List.getElem?_eq_some_iff.1 this).1]
 exact this
theorem CpI.cell2 (h : CpI w sb tb g s cap rest k wr) (hb : Below wr.heap.size wr w2) {p : Nat} {v : Value} (hc : wr.cell? ⟨g, p, none⟩ = some v) : w2.cell? ⟨g, p, none⟩ = some v ∧ w2.frozen? ⟨g, p, none⟩ = false := by
 obtain ⟨rows, hB, _⟩ := h.ex
 exact ⟨(hb.cell (p := ⟨g, p, none⟩) hB.lt).trans hc, (hB.below hb hB.lt).frozen p⟩
theorem CpI.step (h : CpI w sb tb g s cap rest k wr) (hx : s.logs[k]? = some x) (hb : Below wr.heap.size wr w2) {a' : Option Addr} {n' c' : Nat} (hd : ES (fun b => wr.heap.size ≤ b) w2 a' n' c' x.es) : CpI w sb tb g s cap rest (k + 1) (w2.setCell ⟨g, k * 2 + 1, none⟩ (.slice a' n' c')) := by
 obtain ⟨rows, hB, hl, hs, hr⟩ := h.ex
 obtain ⟨y0, y1, y2, htB⟩ := h.tbB
 have hk : k < rows.length := by rw [hl]; exact (List.getElem?_eq_some_iff.1 hx).1
 have hrk : rows[k]? = some rows[k] := List.getElem?_eq_getElem hk
 obtain ⟨ho, a, n, c, er, _⟩ := hr k x rows[k] hx hrk
 have hsize := h.below.size
 have hkeep : Keeps (fun b => b ≠ g) w2 (w2.setCell ⟨g, k * 2 + 1, none⟩ (.slice a' n' c')) := ⟨by simp [World.setCell], fun b _ hbg => Below.heap_setCell w2 ⟨g, k * 2 + 1, none⟩ _ b hbg⟩
 refine ⟨⟨rows.set k (rows[k].set 1 (.slice a' n' c')), ?_, by simpa using hl, ?_, ?_⟩, (h.sbB.below hb h.sbB.lt).far (Ne.symm h.ne.1) _, ⟨y0, y1, y2, (htB.below hb htB.lt).far (Ne.symm h.ne.2.1) _⟩, ?_, h.hg, h.htb, h.ne⟩
 · have := (hB.below hb hB.lt).set (k * 2 + 1) (.slice a' n' c')
   rw [List.set_append_left _ _ (by rw [flat_len hs]; omega)] at this
   rw [flat_set _ hs hrk (by omega)]
   exact this
 · intro r hr'
   rcases List.mem_or_eq_of_mem_set hr' with hr' | rfl
   · exact hs r hr'
   · rw [List.length_set]; exact hs _ (List.getElem_mem hk)
 · intro i x' r' hx' hr'
   by_cases hik : i = k
   · subst hik
     rw [List.getElem?_set_self hk] at hr'
     rw [hx] at hx'
     cases hx'; cases hr'
     rw [er]
     refine ⟨ho, a', n', c', rfl, (hd.imp (K' := CpK w.heap.size g tb (i + 1) i) fun b _ hb2 => ⟨?_, ?_, fun _ => Nat.le_trans hsize hb2⟩).keep (hkeep.imp fun b hb2 => hb2.1)⟩
     · have := hB.lt
       omega
     · have := htB.lt
       omega
   · rw [List.getElem?_set_ne (Ne.symm hik)] at hr'
     have h1 := (hr i x' r' hx' hr').keep (.below hb)
     exact (h1.keep (hkeep.imp fun b hb2 => hb2.1)).imp fun b _ hb2 => ⟨hb2.1, hb2.2.1, fun hi => hb2.2.2 (by omega)⟩
 · exact (h.below.trans (hb.mono hsize)).setCell h.hg _
theorem CpI.done (h : CpI w sb tb g s cap rest s.logs.length wr) (hc : s.logs.length ≤ cap) (hcm : cap ≤ maxLen) (hn : s.logs.length ≤ 100000) : LS (fun b => w.heap.size ≤ b ∧ b ≠ tb) wr (some ⟨g, 0, none⟩) s.logs.length cap s.logs := by
 obtain ⟨rows, hB, hl, hs, hr⟩ := h.ex
 refine ⟨⟨rfl, fun _ ad e => by cases e; exact ⟨h.hg, h.ne.2.1⟩, rows, ⟨by rw [flat_len hs, hl], hc, hcm, fun e => (by cases e), fun _ => ⟨g, 0, rfl, hB.lt, fun j u hj => hB.at_ ?_⟩⟩, hl, hs, fun i e r he hre => ?_⟩, hn⟩
 · rw [Nat.zero_add, List.getElem?_append_left (List.getElem?_eq_some_iff.1 hj).1]
   exact hj
 · exact (hr i e r he hre).imp fun b _ hb => ⟨hb.2.2 (List.getElem?_eq_some_iff.1 he).1, hb.2.1⟩
end

def StPost (s : St) (w : World) (e : Ending) (w' : World) : Prop := ∃ a c, e = .returned (.agg #[.int .i64 s.id, .int .i64 s.priv, .slice a s.logs.length c]) ∧ SV (fun b => w.heap.size ≤ b) w' a s.logs.length c s ∧ Below w.heap.size w w'

theorem CpI.head {w wr w2 : World} {sb tb g k cap : Nat} {s : St} {rest : List Value} (h : CpI w sb tb g s cap rest k wr) (hb : Below wr.heap.size wr w2) : w2.cell? ⟨sb, 2, none⟩ = some (.slice (some ⟨g, 0, none⟩) s.logs.length cap) := (h.sbB.below hb h.sbB.lt).at_ (i := 2) rfl
theorem copied_set {W : World} {tb : Nat} {t : TypeId} {x0 x1 x2 : Value} (h : Blk W tb t [x0, x1, x2]) (y0 y1 y2 : Value) : Blk (((W.setCell ⟨tb, 0, none⟩ y0).setCell ⟨tb, 1, none⟩ y1).setCell ⟨tb, 2, none⟩ y2) tb t [y0, y1, y2] := ((h.set 0 y0).set 1 y1).set 2 y2
theorem copied_keeps {K : Nat → Prop} (W : World) (tb : Nat) (y0 y1 y2 : Value) : Keeps (fun b => K b ∧ b ≠ tb) W (((W.setCell ⟨tb, 0, none⟩ y0).setCell ⟨tb, 1, none⟩ y1).setCell ⟨tb, 2, none⟩ y2) :=
 ⟨by simp [World.setCell], fun b _ hb => ((Below.heap_setCell _ ⟨tb, 2, none⟩ _ b hb.2).trans ((Below.heap_setCell _ ⟨tb, 1, none⟩ _ b hb.2))).trans (Below.heap_setCell _ ⟨tb, 0, none⟩ _ b hb.2)⟩
theorem store_ret {W : World} {tb : Nat} {x0 x1 x2 : Value} (hB : Blk W tb 24 [x0, x1, x2]) {fn : Func} {p : Tmp} (h : fn.results = #[.cell p 24]) {a : Act} (hp : a.tmps.getD p undef = .pointer (some ⟨tb, 0, none⟩)) (hd : a.defers = []) {Post : Ending → World → Prop} (hP : Post (.returned (.agg #[x0, x1, x2])) W) :
 bodyPost Tryz.prog fn Post .ret a W :=
 bodyPost_ret (results_cell_row h _ _ tb 24 #[x0, x1, x2] (0, 0) _ hp hB Tryz.underlying24 rfl size26) hd hP

set_option maxRecDepth 20000 in
set_option maxHeartbeats 2000000 in
theorem copied_any (K : Nat → Prop) (a : Option Addr) (n c : Nat) (s : St) (w : World) (H : SV K w a n c s) :
 Calls Tryz.prog 74 #[.agg #[.int .i64 s.id, .int .i64 s.priv, .slice a n c]] w (StPost s w) := by
 obtain ⟨rows, hR, hO⟩ := H.ls.rs.rows
 have hbd := H.ls.bd
 have hlen := H.ls.rs.len
 obtain ⟨sb, hsb⟩ : ∃ sb, Hid (w.heap.size = sb) := ⟨_, rfl⟩
 have hid := H.id
 have hpr := H.priv
 go_enter Tryz.func74, Tryz.ntmps74
 go_wp2_with fail
 rw [hsb.out]
 obtain ⟨W, hW⟩ : ∃ W, W = (w.alloc (.cells #[.int .i64 s.id, .int .i64 s.priv, .slice a n c] 24)).alloc (.cells #[.int .i64 0, .int .i64 0, .slice none 0 0] 24) := ⟨_, rfl⟩
 have hsB : Hid (Blk W sb 24 (stC s a n c)) := by rw [hW, ← hsb.out]; exact (Blk.new w _ (stC s a n c)).alloc _
 have htB : Hid (Blk W (sb + 1) 24 [.int .i64 0, .int .i64 0, .slice none 0 0]) := by
  have := Blk.new (w.alloc (.cells #[.int .i64 s.id, .int .i64 s.priv, .slice a n c] 24)) 24 [.int .i64 0, .int .i64 0, .slice none 0 0]
  rw [show (w.alloc (.cells #[.int .i64 s.id, .int .i64 s.priv, .slice a n c] 24)).heap.size = sb + 1 by rw [← hsb.out]; simp] at this
  rw [hW]; exact this
 have hb : Hid (Below w.heap.size w W) := by rw [hW]; exact ((Below.refl _ w).alloc (Nat.le_refl _) _).alloc (by simp) _
 rw [← hW]
 have hWs : Hid (W.heap.size = sb + 1 + 1) := by show _ = _; rw [hW, ← hsb.out]; simp
 clear hW
 have hcl := Lib.hid (cloneL_any a n c rows.flatten W (hR.below hb.out (Nat.le_refl _)) (rows_one hO fun _ _ h => LV.one h) (by omega))
 refine hcl.out.mono ?_
 rintro e w1 ⟨v, rfl, hown, hb1⟩
 have hb1' := Lib.hid (hb.out.trans (hb1.mono hb.out.size))
 have hsB1 := hsB.out.below hb1 hsB.out.lt
 have htB1 := Lib.hid (htB.out.below hb1 htB.out.lt)
 obtain ⟨a', c', hv, hR', hsep⟩ := Sl.of_owns hown
 have hown' := Lib.hid hown
 subst hv
 have c2 := hsB1.at_ (i := 2) rfl
 have f2 := hsB1.frozen 2
 have hsB1' := Lib.hid hsB1
 have n63 : (n : Int) ≤ 100000 := by omega
 clear hcl hown hsB1 hsB htB hb
 go_wp2_with fail
 have hsB2 : Hid (Blk (w1.setCell ⟨sb, 2, none⟩ (.slice a' n c')) sb 24 (stC s a' n c')) := hsB1'.out.set 2 _
 have htB2 : Hid (Blk (w1.setCell ⟨sb, 2, none⟩ (.slice a' n c')) (sb + 1) 24 [.int .i64 0, .int .i64 0, .slice none 0 0]) := htB1.out.far (by simp) _
 have hb2 : Hid (Below w.heap.size w (w1.setCell ⟨sb, 2, none⟩ (.slice a' n c'))) := hb1'.out.setCell (Nat.le_of_eq hsb.out) _
 have hle := Lib.hid hb1.size
 rcases Nat.eq_zero_or_pos n with h0 | hpos
 · subst h0
   have hl0 : s.logs = [] := List.eq_nil_of_length_eq_zero hlen
   have hs0 : Hid (SV (fun b => w.heap.size ≤ b) w1 a' 0 c' s) := by
    refine ⟨⟨⟨hlen, fun h => absurd h (by omega), [], ⟨by simp, hR'.le, hR'.max, hR'.nil, fun h => absurd h (by omega)⟩, ?_⟩, Nat.zero_le _⟩, hid, hpr⟩
    rw [hl0]; exact RowsOf.nil
   have e0 := hsB2.out.at_ (i := 0) rfl
   have e1 := hsB2.out.at_ (i := 1) rfl
   have e2 := hsB2.out.at_ (i := 2) rfl
   have t0 := htB2.out.at_ (i := 0) rfl
   have t1 := htB2.out.at_ (i := 1) rfl
   have t2 := htB2.out.at_ (i := 2) rfl
   have u0 := htB2.out.frozen 0
   have u1 := htB2.out.frozen 1
   have u2 := htB2.out.frozen 2
   have hk2 : Hid (SV (fun b => w.heap.size ≤ b) (w1.setCell ⟨sb, 2, none⟩ (.slice a' 0 c')) a' 0 c' s) := by
    refine ⟨⟨⟨hlen, fun h => absurd h (by omega), [], ⟨by simp, hR'.le, hR'.max, hR'.nil, fun h => absurd h (by omega)⟩, ?_⟩, Nat.zero_le _⟩, hid, hpr⟩
    rw [hl0]; exact RowsOf.nil
   clear hs0 hsB2 hown' hR hR' hsep hb1' htB1 hb1 hWs hsB1' hle c2 f2
   generalize World.setCell w1 _ _ = w2 at *
   go_loopw [11] (fun i wr => i = .int .i64 0 ∧ wr = w2) (fun _ _ => 0)
   case atStart => exact ⟨rfl, rfl⟩
   case round =>
    obtain ⟨rfl, rfl⟩ := hrel
    go_wp2_with fail
    refine store_ret (copied_set htB2.out _ _ _) rfl rfl rfl ⟨_, _, by rw [hlen], ?_, ?_⟩
    · rw [hlen]
      refine ⟨⟨⟨hlen, fun h => absurd h (by omega), ?_⟩, Nat.zero_le _⟩, hid, hpr⟩
      obtain ⟨rows, hr, ho⟩ := hk2.out.ls.rs.rows
      refine ⟨[], ⟨by simp, hr.le, hr.max, hr.nil, fun h => absurd h (by omega)⟩, ?_⟩
      rw [hl0]; exact RowsOf.nil
    · exact ((hb2.out.setCell (by have := hsb.out; show _ ≤ sb + 1; omega) _).setCell (by have := hsb.out; show _ ≤ sb + 1; omega) _).setCell (by have := hsb.out; show _ ≤ sb + 1; omega) _
 · obtain ⟨g, cap, rest, hv, hg, hgl, hgb, hcap, hcm, hl2⟩ := Sl.owns_row hown'.out hpos
   cases hv
   have hI : Hid (CpI w sb (sb + 1) g s c' rest 0 (w1.setCell ⟨sb, 2, none⟩ (.slice (some ⟨g, 0, none⟩) n c'))) := by
    have hws := hWs.out
    have hsw := hsb.out
    refine ⟨⟨rows, (Blk.far (t := 121) (cs := rows.flatten ++ rest) hgb (show g ≠ sb by omega) _), hO.len, hO.size, fun i x r hx hr => ?_⟩, by rw [hlen]; exact hsB2.out, ⟨_, _, _, htB2.out⟩, hb2.out, by omega, by omega, by omega, by omega, by omega⟩
    have h1 := (hO.each i x r hx hr).imp (K' := CpK w.heap.size g (sb + 1) 0 i) fun b hb _ => ⟨by omega, by omega, fun h => absurd h (by omega)⟩
    exact h1.keep (.below ((Below.refl _ w).trans hb2.out))
   have hne : g ≠ sb := hI.out.ne.1
   clear hgb hl2 hown' hsB2 htB2 hb2 hR hR' hsep hb1' htB1 hb1 hWs hsB1'
   generalize World.setCell w1 _ _ = w2 at *
   go_loopw [11] (fun i wr => ∃ k : Nat, k ≤ n ∧ i = .int .i64 k ∧ Hid (CpI w sb (sb + 1) g s c' rest k wr)) (fun i _ => n - (intOf i).toNat)
   case atStart => exact ⟨0, Nat.zero_le _, rfl, hI⟩
   case round =>
    obtain ⟨k, hk, rfl, hI⟩ := hrel
    by_cases hlt : k < n
    · have hkl : k < s.logs.length := by omega
      obtain ⟨x, hx⟩ : ∃ x, s.logs[k]? = some x := ⟨_, List.getElem?_eq_getElem hkl⟩
      obtain ⟨ea, en, ec, hf, hes, c0, f0⟩ := hI.out.get hx
      have hcs := Lib.hid (fun W (hW : Below wr.heap.size wr W) => clones_any (fun b => b ≠ g) ea en ec x.es W (hes.below hW))
      have hx' := Lib.hid hx
      have k0 : (0 : Int) ≤ (k : Int) := by omega
      have k1 : (k : Int) < (n : Int) := by omega
      have s0 := hI.out.head (Below.refl _ wr)
      rw [hlen] at s0
      clear hx hes hle hcm hcap
      go_wp2_with fail
      go_region_with (first
       | (go_at_call 112; refine (hcs.out _ (Below.refl _ wr).drew).mono ?_; rintro e wq ⟨a2, cc2, rfl, hes2, hbq⟩; have hbr : Below wr.heap.size wr wq := (Below.refl _ wr).drew.trans hbq; have hc2 := hI.out.cell2 hbr c0; have hc3 := hc2.1; have hc4 := hc2.2; have s1 := hI.out.head hbr; rw [hlen] at s1))
      all_goals
       have hI2 := Lib.hid (hI.out.step hx'.out hbr hes2)
       clear s1 hc2 hc3 hc4 hbr hbq hes2 hcs hI c0 f0 s0
       go_wp2_with fail
       go_roundw
       case rel => exact ⟨k + 1, by omega, by go_num, hI2⟩
       case measure => simp [intOf]; omega
    · obtain rfl : k = n := by omega
      have hd : LS (fun b => w.heap.size ≤ b ∧ b ≠ sb + 1) wr (some ⟨g, 0, none⟩) s.logs.length c' s.logs := CpI.done (by rw [hlen]; exact hI.out) (by omega) hcm (by omega)
      obtain ⟨y0, y1, y2, htb⟩ := hI.out.tbB
      have hsb' := hI.out.sbB
      rw [hlen] at hsb' hd
      have e0 := hsb'.at_ (i := 0) rfl
      have e1 := hsb'.at_ (i := 1) rfl
      have e2 := hsb'.at_ (i := 2) rfl
      have t0 := htb.at_ (i := 0) rfl
      have t1 := htb.at_ (i := 1) rfl
      have t2 := htb.at_ (i := 2) rfl
      have u0 := htb.frozen 0
      have u1 := htb.frozen 1
      have u2 := htb.frozen 2
      have hd' := Lib.hid hd
      have htb' := Lib.hid htb
      have hbw := Lib.hid hI.out.below
      clear hd htb hsb' hI
      go_wp2_with fail
      refine store_ret (copied_set htb'.out _ _ _) rfl rfl rfl ⟨_, _, by rw [hlen], ?_, ?_⟩
      · refine ⟨?_, hid, hpr⟩
        rw [hlen]
        exact (hd'.out.keep (copied_keeps _ _ _ _ _)).imp fun b _ hb => hb.1
      · exact ((hbw.out.setCell (by have := hsb.out; show _ ≤ sb + 1; omega) _).setCell (by have := hsb.out; show _ ≤ sb + 1; omega) _).setCell (by have := hsb.out; show _ ≤ sb + 1; omega) _
end Go.Proofs.YtnonfdcbnkdmcaaGreatDoor
namespace Go.Proofs.YtnonfdcbnkdmcaaGreatDoor
open Go.RowKit Go.Mem
open Go.Sto (Ent Lg St)

theorem cmp_lt {x y : Int} : Lib.compareInt x y < 0 ↔ x < y := by
 unfold Lib.compareInt; split
 · simp [*]
 · split <;> simp <;> omega
theorem cmp_eq {x y : Int} : (Lib.compareInt x y == 0) = decide (x = y) := by
 unfold Lib.compareInt
 split
 · rw [decide_eq_false (by omega)]; rfl
 · split
   · rw [decide_eq_false (by omega)]; rfl
   · rw [decide_eq_true (by omega)]; rfl

set_option maxHeartbeats 400000 in
theorem log1_any (f k : Int) (a : Option Addr) (n c : Nat) (w : World) :
 Calls Tryz.prog 161 #[.agg #[.int .i64 f, .slice a n c], .int .i64 k] w (RetI (Lib.compareInt f k) w) := by
 have hc := Lib.hid (fun W => Tryz.cmp_Compare_int f k W)
 go_enter Tryz.func161, Tryz.ntmps161
 go_wp2_with fail
 refine (hc.out _).mono ?_
 rintro e w1 ⟨rfl, rfl⟩
 go_wp2_with fail
 go_returns
 exact ⟨rfl, (Below.refl _ _).alloc (Nat.le_refl _) _⟩

theorem LS.cells {K : Nat → Prop} {w : World} {a : Option Addr} {n c : Nat} {l : List Lg} (h : LS K w a n c l) {k : Nat} {x : Lg} (hx : l[k]? = some x) :
 ∃ b off ea en ec, a = some ⟨b, off, none⟩ ∧ b < w.heap.size ∧ K b ∧ I64 x.folder ∧ ES K w ea en ec x.es ∧ w.cell? ⟨b, off + k * 2, none⟩ = some (.int .i64 x.folder) ∧ w.cell? ⟨b, off + k * 2 + 1, none⟩ = some (.slice ea en ec) := by
 obtain ⟨b, off, r, rfl, hb, hK, hR, _, hg⟩ := h.rs.get hx
 obtain ⟨hf, ea, en, ec, rfl, hes⟩ := hR
 exact ⟨b, off, ea, en, ec, rfl, hb, hK, hf, hes, by simpa using hg 0 _ rfl, hg 1 _ rfl⟩

set_option maxRecDepth 20000 in
set_option maxHeartbeats 1000000 in
theorem bsf_any (K : Nat → Prop) (a : Option Addr) (n c : Nat) (l : List Lg) (key : Int) (w : World) (H : LS K w a n c l) (hs : Sto.logsB (-1) l = true) :
 Calls Tryz.prog 160 #[.slice a n c, .int .i64 key, .func (.func 161) #[] #[]] w fun e w' => e = .returned (.tuple #[.int .i64 (Sto.pos key l), .bool (Sto.has key l)]) ∧ Below w.heap.size w w' := by
 have hle := H.rs.le
 have hmx := H.rs.max
 have hn := H.bd
 have hlen := H.rs.len
 have hc1 := Lib.hid (fun f a n c W => log1_any f key a n c W)
 go_enter Tryz.func160, Tryz.ntmps160
 go_wp2
 go_loopw [9, 10] (fun iv jv wr => ∃ (i j : Nat), i ≤ j ∧ j ≤ n ∧ iv = .int .i64 i ∧ jv = .int .i64 j ∧ (∀ p t, p < i → l[p]? = some t → t.folder < key) ∧ (∀ p t, j ≤ p → l[p]? = some t → key ≤ t.folder) ∧ Below w.heap.size w wr)
  (fun i j _ => (intOf j - intOf i).toNat)
 case atStart => exact ⟨0, n, Nat.zero_le _, Nat.le_refl _, rfl, rfl, fun p t hp => absurd hp (by omega), fun p t hp ht => absurd (List.getElem?_eq_some_iff.1 ht).1 (by omega), Below.refl _ _⟩
 case round =>
  obtain ⟨i, j, hij, hjn, rfl, rfl, hlo, hhi, hb⟩ := hrel
  by_cases hlt : i < j
  · have hlt' : (i : Int) < (j : Int) := by omega
    have hm1 : (i + j) / 2 < n := by omega
    have hm2 : i ≤ (i + j) / 2 ∧ (i + j) / 2 < j := by omega
    have hkl : (i + j) / 2 < l.length := by omega
    have hget : l[(i + j) / 2]? = some l[(i + j) / 2] := List.getElem?_eq_getElem hkl
    obtain ⟨b, off, ea, en, ec, rfl, hbs, _, _, _, c0, c1⟩ := H.cells hget
    rw [← hb.cell (p := ⟨b, _, none⟩) hbs] at c0 c1
    generalize l[(i + j) / 2] = t at *
    have hi1 : ((i : Int) + (j : Int)) / 2 < (n : Int) := by omega
    have hi2 : (0 : Int) ≤ ((i : Int) + (j : Int)) / 2 := by omega
    have hi3 : (((i : Int) + (j : Int)) / 2).toNat = (i + j) / 2 := by omega
    by_cases hk : t.folder < key
    · have hcm : Lib.compareInt t.folder key < 0 := cmp_lt.2 hk
      have hlo' : Hid (∀ p u, p < (i + j) / 2 + 1 → l[p]? = some u → u.folder < key) := fun p u hp hu => by
       by_cases e : p = (i + j) / 2
       · subst e; rw [hget] at hu; cases hu; exact hk
       · exact Int.lt_trans (Sto.logsB_lt hs (by omega) hu hget) hk
      have hhi' := Lib.hid hhi
      clear hlo hhi hget hkl
      go_wp2_with (refine (hc1.out _ _ _ _ _).mono ?_; rintro e w1 ⟨rfl, hb1⟩)
      go_roundw
      case rel => exact ⟨(i + j) / 2 + 1, j, by omega, hjn, by go_num, rfl, hlo'.out, hhi'.out, hb.trans (hb1.mono hb.size)⟩
      case measure => simp [intOf]; omega
    · have hcm : (Lib.compareInt t.folder key < 0) = False := by rw [eq_iff_iff, iff_false, cmp_lt]; exact hk
      have hhi' : Hid (∀ p u, (i + j) / 2 ≤ p → l[p]? = some u → key ≤ u.folder) := fun p u hp hu => by
       by_cases e : p = (i + j) / 2
       · subst e; rw [hget] at hu; cases hu; omega
       · have := Sto.logsB_lt hs (show (i + j) / 2 < p by omega) hget hu; omega
      have hlo' := Lib.hid hlo
      clear hlo hhi hget hkl
      go_wp2_with (refine (hc1.out _ _ _ _ _).mono ?_; rintro e w1 ⟨rfl, hb1⟩)
      go_roundw
      case rel => exact ⟨i, (i + j) / 2, by omega, by omega, rfl, by go_num, hlo'.out, hhi'.out, hb.trans (hb1.mono hb.size)⟩
      case measure => simp [intOf]; omega
  · obtain rfl : i = j := by omega
    have hpos : Sto.pos key l = i := Sto.pos_eq (by omega) hlo (fun x hx => hhi i x (Nat.le_refl _) hx)
    by_cases hin : i < n
    · have hkl : i < l.length := by omega
      have hget : l[i]? = some l[i] := List.getElem?_eq_getElem hkl
      obtain ⟨b, off, ea, en, ec, rfl, hbs, _, _, _, c0, c1⟩ := H.cells hget
      rw [← hb.cell (p := ⟨b, _, none⟩) hbs] at c0 c1
      generalize l[i] = t at *
      have hfin : Hid (Ending.returned (.tuple #[.int .i64 i, .bool (Lib.compareInt t.folder key == 0)]) = .returned (.tuple #[.int .i64 (Sto.pos key l), .bool (Sto.has key l)])) := by
       rw [cmp_eq, Sto.has_at, hpos, hget]
       rfl
      have hin' : (i : Int) < (n : Int) := by omega
      clear hlo hhi hget hkl hpos
      go_wp2_with (refine (hc1.out _ _ _ _ _).mono ?_; rintro e w1 ⟨rfl, hb1⟩)
      go_ret2
      exact ⟨hfin.out, hb.trans (hb1.mono hb.size)⟩
    · obtain rfl : i = n := by omega
      have hfin : Hid (Ending.returned (.tuple #[.int .i64 i, .bool false]) = .returned (.tuple #[.int .i64 (Sto.pos key l), .bool (Sto.has key l)])) := by
       rw [Sto.has_at, hpos, List.getElem?_eq_none (by omega)]
       rfl
      clear hlo hhi hpos
      go_wp2
      go_ret2
      exact ⟨hfin.out, hb⟩

structure Book (K : Nat → Prop) (w : World) (bb : Nat) (s : St) : Prop where
 ex : ∃ t a n c, Blk w bb t (stC s a n c) ∧ SV K w a n c s
theorem Book.below {K : Nat → Prop} {w w' : World} {bb : Nat} {s : St} (h : Book K w bb s) (hb : Below w.heap.size w w') : Book K w' bb s := by
 obtain ⟨t, a, n, c, h1, h2⟩ := h.ex
 exact ⟨t, a, n, c, h1.below hb h1.lt, h2.below hb⟩
theorem Book.lt {K : Nat → Prop} {w : World} {bb : Nat} {s : St} (h : Book K w bb s) : bb < w.heap.size := by
 obtain ⟨t, a, n, c, h1, h2⟩ := h.ex
 exact h1.lt

set_option maxHeartbeats 1000000 in
theorem log_any (K : Nat → Prop) (bb : Nat) (s : St) (f : Int) (w : World) (H : Book K w bb s) (hs : Sto.logsB (-1) s.logs = true) :
 Calls Tryz.prog 108 #[.pointer (some ⟨bb, 0, none⟩), .int .i64 f] w fun e w' => e = .returned (.tuple #[.int .i64 (Sto.pos f s.logs), .bool (Sto.has f s.logs)]) ∧ Below w.heap.size w w' := by
 obtain ⟨t, a, n, c, hB, hS⟩ := H.ex
 have c2 := hB.at_ (i := 2) rfl
 have hc := Lib.hid (bsf_any K a n c s.logs f w hS.ls hs)
 clear hB hS
 go_enter Tryz.func108, Tryz.ntmps108
 go_wp2_with fail
 refine hc.out.mono ?_
 rintro e w1 ⟨rfl, hb⟩
 go_wp2_with fail
 go_ret2
 exact ⟨rfl, hb⟩

set_option maxRecDepth 20000 in
set_option maxHeartbeats 1000000 in
theorem entries_any (K : Nat → Prop) (bb : Nat) (s : St) (f : Int) (w : World) (H : Book K w bb s) (hs : Sto.logsB (-1) s.logs = true) :
 Calls Tryz.prog 70 #[.pointer (some ⟨bb, 0, none⟩), .int .i64 f] w fun e w' => ∃ a c, e = .returned (.slice a (Sto.ents s f).length c) ∧ ES K w' a (Sto.ents s f).length c (Sto.ents s f) ∧ Below w.heap.size w w' := by
 have hc := Lib.hid (log_any K bb s f w H hs)
 have H' := Lib.hid H
 cases hh : Sto.has f s.logs with
 | false =>
  have he : Sto.ents s f = [] := Sto.entsL_new hs hh
  rw [he]
  rw [hh] at hc
  clear hh he H
  go_enter Tryz.func70, Tryz.ntmps70
  go_wp2_with fail
  refine hc.out.mono ?_
  rintro e w1 ⟨rfl, hb⟩
  go_wp2_with fail
  go_ret
  exact ⟨none, 0, rfl, ES.nil0 _ _, hb⟩
 | true =>
  have hx := Sto.has_at f s.logs
  rw [hh] at hx
  cases hg : s.logs[Sto.pos f s.logs]? with
  | none => rw [hg] at hx; cases hx
  | some x =>
   have he : Sto.ents s f = x.es := Sto.entsL_has hh hg
   rw [he]
   rw [hh] at hc
   have hg' := Lib.hid hg
   have hpl := (List.getElem?_eq_some_iff.1 hg).1
   obtain ⟨p, hp⟩ : ∃ p, Hid (Sto.pos f s.logs = p) := ⟨_, rfl⟩
   rw [hp.out] at hc hg' hpl
   clear hh he hx hg H
   go_enter Tryz.func70, Tryz.ntmps70
   go_wp2_with fail
   refine hc.out.mono ?_
   rintro e w1 ⟨rfl, hb⟩
   obtain ⟨t, a, n, c, hB, hS⟩ := (H'.out.below hb).ex
   have c2 := hB.at_ (i := 2) rfl
   obtain ⟨b, off, ea, en, ec, rfl, _, _, _, hes, _, c1⟩ := hS.ls.cells hg'.out
   have hn := hS.ls.rs.len
   have p0 : (0 : Int) ≤ (p : Int) := by omega
   have p1 : (p : Int) < (n : Int) := by omega
   have hlen := hes.rs.len
   have hes' := Lib.hid hes
   clear hB hS hes hc
   go_wp2_with fail
   go_ret
   subst hlen
   exact ⟨ea, ec, rfl, hes'.out, hb⟩
end Go.Proofs.YtnonfdcbnkdmcaaGreatDoor
namespace Go.Proofs.YtnonfdcbnkdmcaaGreatDoor
open Go.RowKit Go.Mem
open Go.Sto (Ent Lg St)

theorem logsB_len : ∀ {L : List Lg} {p : Int}, Sto.logsB p L = true → p ≤ 15 → (L.length : Int) ≤ 15 - p
 | [], p, _, hp => by simp; omega
 | x :: r, p, h, hp => by
  rw [Sto.logsB_cons] at h
  have hf := h.1
  unfold Sto.folderB at hf
  rw [decide_eq_true_iff] at hf
  have := logsB_len h.2.2.2 (by omega)
  rw [List.length_cons]
  omega

theorem repl_set {w w3 : World} {g p n c' n' cc : Nat} {t : TypeId} {L : List Lg} {l : List Ent} {rows : List (List Value)} {rest : List Value} {x : Lg} {a' : Option Addr}
 (hO : RowsOf 2 (LV (fun _ => True) w) L rows) (hB : Blk w3 g t (rows.flatten ++ rest)) (hg : w.heap.size ≤ g) (hb : Below w.heap.size w w3) (hx : L[p]? = some x) (HE : ES (fun _ => True) w a' n' cc l) (hL : L.length = n) (hn : n ≤ 100000) (hc : n ≤ c') (hcm : c' ≤ maxLen) :
 LS (fun _ => True) (w3.setCell ⟨g, p * 2 + 1, none⟩ (.slice a' n' cc)) (some ⟨g, 0, none⟩) n c' (L.set p ⟨x.folder, l⟩) := by
 have hk : p < rows.length := by rw [hO.len]; exact (List.getElem?_eq_some_iff.1 hx).1
 have hrk : rows[p]? = some rows[p] := List.getElem?_eq_getElem hk
 obtain ⟨hf, a, m, c, er, _⟩ := hO.each p x rows[p] hx hrk
 have hkeep : Keeps (fun b => b < w.heap.size) w (w3.setCell ⟨g, p * 2 + 1, none⟩ (.slice a' n' cc)) :=
  ⟨by simpa [World.setCell] using hb.size, fun b hb1 _ => (Below.heap_setCell w3 ⟨g, p * 2 + 1, none⟩ _ b (show b ≠ g by omega)).trans (hb.block b hb1)⟩
 have hO2 : RowsOf 2 (LV (fun _ => True) (w3.setCell ⟨g, p * 2 + 1, none⟩ (.slice a' n' cc))) L rows := hO.imp fun e r h => ((h.imp (K' := fun b => b < w.heap.size) fun b hb _ => hb).keep hkeep).imp fun _ _ _ => trivial
 have hHE : ES (fun _ => True) (w3.setCell ⟨g, p * 2 + 1, none⟩ (.slice a' n' cc)) a' n' cc l := ((HE.imp (K' := fun b => b < w.heap.size) fun b hb _ => hb).keep hkeep).imp fun _ _ _ => trivial
 have hO3 := hO2.set p (e := ⟨x.folder, l⟩) (r := rows[p].set 1 (.slice a' n' cc)) ⟨hf, a', n', cc, by rw [er]; rfl, hHE⟩ (by rw [List.length_set]; exact hO.size _ (List.getElem_mem hk))
 have hB2 := hB.set (p * 2 + 1) (.slice a' n' cc)
 rw [List.set_append_left _ _ (by rw [flat_len hO.size]; omega)] at hB2
 refine ⟨⟨by rw [List.length_set, hL], fun _ _ _ => trivial, _, ⟨by rw [hO3.flat, List.length_set, hL], hc, hcm, fun e => (by cases e), fun _ => ⟨g, 0, rfl, hB2.lt, fun j u hj => hB2.at_ ?_⟩⟩, hO3⟩, hn⟩
 rw [flat_set _ hO.size hrk (by omega)] at hj
 rw [Nat.zero_add, List.getElem?_append_left (List.getElem?_eq_some_iff.1 hj).1]
 exact hj

theorem repl_ins {w w5 : World} {B p n n' cc : Nat} {L : List Lg} {l : List Ent} {rows : List (List Value)} {f : Int} {a' : Option Addr} {v : Value}
 (hO : RowsOf 2 (LV (fun _ => True) w) L rows) (hf : I64 f) (HE : ES (fun _ => True) w a' n' cc l) (hb : Below w.heap.size w w5) (hL : L.length = n) (hn : n + 1 ≤ 100000)
 (hown : w5.ownsRow B 121 2 v (n + 1) (rows.flatten.take (p * 2) ++ logC f a' n' cc ++ rows.flatten.drop (p * 2))) :
 ∃ a2 c2, v = .slice a2 (n + 1) c2 ∧ LS (fun b => b < w.heap.size ∨ B ≤ b) w5 a2 (n + 1) c2 (L.take p ++ [⟨f, l⟩] ++ L.drop p) := by
 obtain ⟨a2, c2, rfl, hR, hsep⟩ := Sl.of_owns hown
 have hO2 : RowsOf 2 (LV (fun b => b < w.heap.size ∨ B ≤ b) w5) L rows := hO.imp fun e r h => (h.imp fun b hb _ => Or.inl hb).keep (.below hb)
 have hO3 := ((hO2.take p).append (RowsOf.one (e := (⟨f, l⟩ : Lg)) (r := logC f a' n' cc) ⟨hf, a', n', cc, rfl, (HE.imp fun b hb _ => Or.inl hb).below hb⟩ rfl)).append (hO2.drop p)
 refine ⟨a2, c2, rfl, ⟨?_, fun _ ad e => .inr (hsep ad e).1, _, ?_, hO3⟩, hn⟩
 · simp only [List.length_append, List.length_take, List.length_drop, List.length_singleton]; omega
 · rw [List.flatten_append, List.flatten_append, flat_take p hO.size, flat_drop p hO.size, List.flatten_singleton]
   exact hR

theorem store_fin {w wa w5 : World} {tb : Nat} {s : St} {a : Option Addr} {c : Nat} (hS : SV (fun b => wa.heap.size ≤ b) w5 a s.logs.length c s) (hb : Below w.heap.size w w5) (htb : w.heap.size ≤ tb) (hta : tb < wa.heap.size) (_hwa : w.heap.size ≤ wa.heap.size) :
 StPost s w (.returned (.agg #[.int .i64 s.id, .int .i64 s.priv, .slice a s.logs.length c])) (((w5.setCell ⟨tb, 0, none⟩ (.int .i64 s.id)).setCell ⟨tb, 1, none⟩ (.int .i64 s.priv)).setCell ⟨tb, 2, none⟩ (.slice a s.logs.length c)) :=
 ⟨a, c, rfl, ((hS.imp (K' := fun b => w.heap.size ≤ b ∧ b ≠ tb) fun b _ h => ⟨by omega, by omega⟩).keep (copied_keeps _ _ _ _ _)).imp fun b _ h => h.1, ((hb.setCell htb _).setCell htb _).setCell htb _⟩

set_option maxRecDepth 20000 in
set_option maxHeartbeats 2000000 in
theorem replace_any (bb : Nat) (s : St) (f : Int) (hf : I64 f) (a : Option Addr) (n c : Nat) (l : List Ent) (w : World) (H : Book (fun _ => True) w bb s) (hs : Sto.logsB (-1) s.logs = true) (HE : ES (fun _ => True) w a n c l) :
 Calls Tryz.prog 76 #[.pointer (some ⟨bb, 0, none⟩), .int .i64 f, .slice a n c] w (StPost (Sto.replS s f l) w) := by
 obtain ⟨bt, la, ln, lc, hB, hS⟩ := H.ex
 have b0 : ∀ o, (w.alloc o).cell? ⟨bb, 0, none⟩ = some (.int .i64 s.id) := fun o => (hB.alloc o).at_ (i := 0) rfl
 have b1 : ∀ o, (w.alloc o).cell? ⟨bb, 1, none⟩ = some (.int .i64 s.priv) := fun o => (hB.alloc o).at_ (i := 1) rfl
 have b2 : ∀ o, (w.alloc o).cell? ⟨bb, 2, none⟩ = some (.slice la ln lc) := fun o => (hB.alloc o).at_ (i := 2) rfl
 have b3 : ∀ o o', ((w.alloc o).alloc o').cell? ⟨bb, 2, none⟩ = some (.slice la ln lc) := fun o o' => ((hB.alloc o).alloc o').at_ (i := 2) rfl
 obtain ⟨rows, hR, hO⟩ := hS.ls.rs.rows
 have hbd := hS.ls.bd
 obtain ⟨tb, htb⟩ : ∃ tb, Hid (w.heap.size = tb) := ⟨_, rfl⟩
 go_enter Tryz.func76, Tryz.ntmps76
 go_wp2_with fail
 rw [htb.out]
 obtain ⟨W, hW⟩ : ∃ W, W = (w.alloc (.cells #[.int .i64 0, .int .i64 0, .slice none 0 0] 24)).alloc (.cells #[.int .i64 s.id, .int .i64 s.priv, .slice la ln lc] 24) := ⟨_, rfl⟩
 have htB : Hid (Blk W tb 24 [.int .i64 0, .int .i64 0, .slice none 0 0]) := by rw [hW, ← htb.out]; exact (Blk.new w _ _).alloc _
 have hxB : Hid (Blk W (tb + 1) 24 (stC s la ln lc)) := by
  have := Blk.new (w.alloc (.cells #[.int .i64 0, .int .i64 0, .slice none 0 0] 24)) 24 (stC s la ln lc)
  rw [show (w.alloc (.cells #[.int .i64 0, .int .i64 0, .slice none 0 0] 24)).heap.size = tb + 1 by rw [← htb.out]; simp] at this
  rw [hW]; exact this
 have hb : Hid (Below w.heap.size w W) := by rw [hW]; exact ((Below.refl _ w).alloc (Nat.le_refl _) _).alloc (by simp) _
 rw [← hW]
 have hWs : Hid (W.heap.size = tb + 1 + 1) := by show _ = _; rw [hW, ← htb.out]; simp
 clear hW b0 b1 b2 b3
 have hcl := Lib.hid (cloneL_any la ln lc rows.flatten W (hR.below hb.out (Nat.le_refl _)) (rows_one hO fun _ _ h => LV.one h) (by omega))
 refine hcl.out.mono ?_
 rintro e w1 ⟨v, rfl, hown, hb1⟩
 have hb1' := Lib.hid (hb.out.trans (hb1.mono hb.out.size))
 have hxB1 := hxB.out.below hb1 hxB.out.lt
 have htB1 := Lib.hid (htB.out.below hb1 htB.out.lt)
 have x2 := hxB1.at_ (i := 2) rfl
 have y2 := hxB1.frozen 2
 have hxB1' := Lib.hid hxB1
 obtain ⟨a', c', hv, _, hsep⟩ := Sl.of_owns hown
 have hown' := Lib.hid hown
 have n63 : (ln : Int) ≤ 100000 := by omega
 have hlen := hS.ls.rs.len
 have hws1 := Lib.hid hb1.size
 clear hcl hown hxB1 hxB htB hb hb1
 go_wp2_with fail
 have hxB2 : Hid (Blk (w1.setCell ⟨tb + 1, 2, none⟩ v) (tb + 1) 24 (stC s a' ln c')) := by rw [hv]; exact hxB1'.out.set 2 _
 have htB2 : Hid (Blk (w1.setCell ⟨tb + 1, 2, none⟩ v) tb 24 [.int .i64 0, .int .i64 0, .slice none 0 0]) := htB1.out.far (by simp) _
 have hb2 : Hid (Below w.heap.size w (w1.setCell ⟨tb + 1, 2, none⟩ v)) := hb1'.out.setCell (by have := htb.out; show _ ≤ tb + 1; omega) _
 have hown2 : Hid ((w1.setCell ⟨tb + 1, 2, none⟩ v).ownsRow W.heap.size 121 2 v ln rows.flatten) := by
  have h1 := Sl.of_owns hown'.out
  refine World.ownsRow.kept hown'.out (grown_set (World.grownBy.refl w1 (some (tb + 1))) (.inl rfl) v) (.inr fun e => ?_)
  have := (World.ownsRow.lt hown'.out _ e).1
  have := hWs.out
  omega
 clear hxB1' htB1 hb1' hown' hsep x2 y2
 subst hv
 generalize World.setCell w1 _ _ = w2 at *
 have hlog := Lib.hid (log_any (fun _ => True) bb s f w2 (H.below hb2.out) hs)
 refine hlog.out.mono ?_
 rintro e w3 ⟨rfl, hb3⟩
 have hxB3 := hxB2.out.below hb3 hxB2.out.lt
 have htB3 := Lib.hid (htB2.out.below hb3 htB2.out.lt)
 have hb3' := Lib.hid (hb2.out.trans (hb3.mono hb2.out.size))
 have hown3 := Lib.hid (Sl.owns_below hown2.out hb3 (Nat.le_refl _))
 have x2 := hxB3.at_ (i := 2) rfl
 have hxB3' := Lib.hid hxB3
 clear hxB3 htB2 hb3 hb2 hown2 hlog hxB2
 cases hh : Sto.has f s.logs with
 | true =>
  have hx := Sto.has_at f s.logs
  rw [hh] at hx
  cases hgx : s.logs[Sto.pos f s.logs]? with
  | none => rw [hgx] at hx; cases hx
  | some x =>
   rw [hgx] at hx
   have hxf : x.folder = f := of_decide_eq_true hx.symm
   have hins : Sto.insL f l s.logs = s.logs.set (Sto.pos f s.logs) ⟨x.folder, l⟩ := by rw [Sto.insL_has l hh, hxf]
   have hpl := (List.getElem?_eq_some_iff.1 hgx).1
   have hrep : Hid (Sto.replS s f l = ⟨s.id, s.priv, s.logs.set (Sto.pos f s.logs) ⟨x.folder, l⟩⟩) := by show _ = _; rw [Sto.replS, hins]
   generalize Sto.pos f s.logs = p at *
   have hpos : 0 < ln := by omega
   obtain ⟨g, cap, rest, hv, hg, hgl, hgb, hcap, hcm, hl2⟩ := Sl.owns_row hown3.out hpos
   cases hv
   have hgw : w.heap.size ≤ g := by have := hWs.out; have := htb.out; omega
   have hgt : g ≠ tb + 1 ∧ g ≠ tb := by have := hWs.out; omega
   have hLS := repl_set (w3 := w3) hO (t := 121) (rest := rest) hgb hgw hb3'.out hgx HE hlen hbd hcap hcm
   obtain ⟨r, hr, ⟨_, ra, rn, rc, er, _⟩, _, hfl⟩ := hO.get hgx
   have hBg : Blk w3 g 121 (rows.flatten ++ rest) := hgb
   have c1 : w3.cell? ⟨g, p * 2 + 1, none⟩ = some (.slice ra rn rc) := by
    have h1 := hfl 1 (.slice ra rn rc) (by rw [er]; rfl)
    refine hBg.at_ ?_
    rw [List.getElem?_append_left (List.getElem?_eq_some_iff.1 h1).1]
    exact h1
   have f1 := hBg.frozen (p * 2 + 1)
   have hx4 : Blk (w3.setCell ⟨g, p * 2 + 1, none⟩ (.slice a n c)) (tb + 1) 24 (stC s (some ⟨g, 0, none⟩) ln c') := hxB3'.out.far (Ne.symm hgt.1) _
   have q0 := hx4.at_ (i := 0) rfl
   have q1 := hx4.at_ (i := 1) rfl
   have q2 := hx4.at_ (i := 2) rfl
   have ht4 : Hid (Blk (w3.setCell ⟨g, p * 2 + 1, none⟩ (.slice a n c)) tb 24 [.int .i64 0, .int .i64 0, .slice none 0 0]) := htB3.out.far (Ne.symm hgt.2) _
   have hb4 : Hid (Below w.heap.size w (w3.setCell ⟨g, p * 2 + 1, none⟩ (.slice a n c))) := hb3'.out.setCell hgw _
   have hcop := copied_any (fun _ => True) (some ⟨g, 0, none⟩) ln c' ⟨s.id, s.priv, s.logs.set p ⟨x.folder, l⟩⟩ _ ⟨hLS, hS.id, hS.priv⟩
   rw [← hrep.out] at hcop
   have hcop' := Lib.hid hcop
   have p0 : (0 : Int) ≤ (p : Int) := by omega
   have p1 : (p : Int) < (ln : Int) := by omega
   clear hcop hLS hx4 hBg hfl er hr hgb hown3 hxB3' htB3 hb3' hx hgx hins hl2
   go_wp2_with fail
   generalize World.setCell w3 _ _ = w4 at *
   refine hcop'.out.mono ?_
   rintro e w5 ⟨a5, c5, rfl, hS5, hb5⟩
   have ht5 := ht4.out.below hb5 ht4.out.lt
   have t0 := ht5.at_ (i := 0) rfl
   have t1 := ht5.at_ (i := 1) rfl
   have t2 := ht5.at_ (i := 2) rfl
   have u0 := ht5.frozen 0
   have u1 := ht5.frozen 1
   have u2 := ht5.frozen 2
   have hfin := Lib.hid (store_fin hS5 (hb4.out.trans (hb5.mono hb4.out.size)) (Nat.le_of_eq htb.out) ht4.out.lt hb4.out.size)
   have ht5' := Lib.hid ht5
   clear hS5 hb5 ht5 ht4 hb4 hcop' q0 q1 q2
   go_wp2_with fail
   exact store_ret (copied_set ht5'.out _ _ _) rfl rfl rfl hfin.out
 | false =>
  have hrep : Hid (Sto.replS s f l = ⟨s.id, s.priv, s.logs.take (Sto.pos f s.logs) ++ [⟨f, l⟩] ++ s.logs.drop (Sto.pos f s.logs)⟩) := by show _ = _; rw [Sto.replS, Sto.insL_new l hh]
  have hple := Sto.pos_le f s.logs
  have hll := logsB_len hs (by omega)
  generalize Sto.pos f s.logs = p at *
  have hbv : Hid (Below w3.heap.size w3 (w3.alloc (.cells #[.int .i64 f, .slice a n c] 121))) := (Below.refl _ _).alloc (Nat.le_refl _) _
  have hvl : ∀ k, (Value.slice a' ln c').ownBlock = some k → w3.heap.size ≠ k := fun k e => by have := (World.ownsRow.lt hown3.out k e).2; omega
  have hin := Lib.hid (insertL_any W.heap.size (.slice a' ln c') ln p rows.flatten (logC f a n c) (w3.alloc (.cells #[.int .i64 f, .slice a n c] 121)) (Sl.owns_below hown3.out hbv.out (Nat.le_refl _)) (by omega) (rows_one hO fun _ _ h => LV.one h) w3.heap.size (heap_alloc_new w3 _) hvl rfl (fun u hu => LV.one (K := fun _ => True) (w := w) (x := ⟨f, l⟩) ⟨hf, a, n, c, rfl, HE⟩ u hu) (by have := hxB3'.out.lt; have := hWs.out; simp; omega) (by omega))
  go_wp2_with fail
  refine hin.out.mono ?_
  rintro e w4 ⟨v4, rfl, hown4, hb4⟩
  have hbw : Below w.heap.size w w4 := (hb3'.out.trans (hbv.out.mono hb3'.out.size)).trans (hb4.mono (by have := hWs.out; have := htb.out; omega))
  obtain ⟨a2, c2, rfl, hLS⟩ := repl_ins hO hf HE hbw hlen (by omega) hown4
  have hx4 : Blk w4 (tb + 1) 24 (stC s a' ln c') := (hxB3'.out.alloc _).below hb4 (by have := hWs.out; omega)
  have ht4 : Blk w4 tb 24 [.int .i64 0, .int .i64 0, .slice none 0 0] := (htB3.out.alloc _).below hb4 (by have := hWs.out; omega)
  have z2 := hx4.at_ (i := 2) rfl
  have g2 := hx4.frozen 2
  have hx5 : Blk (w4.setCell ⟨tb + 1, 2, none⟩ (.slice a2 (ln + 1) c2)) (tb + 1) 24 (stC s a2 (ln + 1) c2) := hx4.set 2 _
  have q0 := hx5.at_ (i := 0) rfl
  have q1 := hx5.at_ (i := 1) rfl
  have q2 := hx5.at_ (i := 2) rfl
  have ht5 : Hid (Blk (w4.setCell ⟨tb + 1, 2, none⟩ (.slice a2 (ln + 1) c2)) tb 24 [.int .i64 0, .int .i64 0, .slice none 0 0]) := ht4.far (by simp) _
  have hb5 : Hid (Below w.heap.size w (w4.setCell ⟨tb + 1, 2, none⟩ (.slice a2 (ln + 1) c2))) := hbw.setCell (by have := htb.out; show _ ≤ tb + 1; omega) _
  have hLS5 : LS (fun _ => True) (w4.setCell ⟨tb + 1, 2, none⟩ (.slice a2 (ln + 1) c2)) a2 (ln + 1) c2 (s.logs.take p ++ [⟨f, l⟩] ++ s.logs.drop p) := by
   have hk : Keeps (fun b => b < w.heap.size ∨ W.heap.size ≤ b) w4 (w4.setCell ⟨tb + 1, 2, none⟩ (.slice a2 (ln + 1) c2)) :=
    ⟨by simp [World.setCell], fun b _ hb => Below.heap_setCell w4 ⟨tb + 1, 2, none⟩ _ b (by have := hWs.out; have := htb.out; show b ≠ tb + 1; omega)⟩
   exact (hLS.keep hk).imp fun _ _ _ => trivial
  have hcop := copied_any (fun _ => True) a2 (ln + 1) c2 ⟨s.id, s.priv, s.logs.take p ++ [⟨f, l⟩] ++ s.logs.drop p⟩ _ ⟨hLS5, hS.id, hS.priv⟩
  rw [← hrep.out] at hcop
  have hcop' := Lib.hid hcop
  clear hcop hLS5 hLS hx5 hx4 ht4 hbw hown4 hb4 hin hvl hbv hown3 hxB3' htB3 hb3' x2
  go_wp2_with fail
  generalize World.setCell w4 _ _ = w6 at *
  refine hcop'.out.mono ?_
  rintro e w5 ⟨a5, c5, rfl, hS5, hb6⟩
  have ht6 := ht5.out.below hb6 ht5.out.lt
  have t0 := ht6.at_ (i := 0) rfl
  have t1 := ht6.at_ (i := 1) rfl
  have t2 := ht6.at_ (i := 2) rfl
  have u0 := ht6.frozen 0
  have u1 := ht6.frozen 1
  have u2 := ht6.frozen 2
  have hfin := Lib.hid (store_fin hS5 (hb5.out.trans (hb6.mono hb5.out.size)) (Nat.le_of_eq htb.out) ht5.out.lt hb5.out.size)
  have ht6' := Lib.hid ht6
  clear hS5 hb6 ht6 ht5 hb5 hcop' q0 q1 q2
  go_wp2_with fail
  exact store_ret (copied_set ht6'.out _ _ _) rfl rfl rfl hfin.out
end Go.Proofs.YtnonfdcbnkdmcaaGreatDoor
