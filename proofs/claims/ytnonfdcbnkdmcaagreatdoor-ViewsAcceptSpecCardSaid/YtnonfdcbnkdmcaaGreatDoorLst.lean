/- entries and logs of a store in memory; store.clones store.clones logs and stores in memory; store.copied store.copied slices.BinarySearchFunc at []api.Log; (*store.book).log, .entries (*store.book).replace -/
import Derived.Test.YtnonfdcbnkdmcaaGreatDoorAl
import Derived.Test.YtnonfdcbnkdmcaaGreatDoorRow
import Derived.Test.YtnonfdcbnkdmcaaGreatDoorStPlain
import Derived.Test.YtnonfdcbnkdmcaaGreatDoorTag
import Derived.Test.YtnonfdcbnkdmcaaGreatDoorShelf
import Derived.Deep.RegionHeld3
import Derived.Laws.ResultCell
import Derived.Test.YtnonfdcbnkdmcaaGreatDoorSgn3
namespace Go.Proofs.YtnonfdcbnkdmcaaGreatDoor
open Go.RowKit Go.Mem
open Go.Sto (Ent Lg)

def entC (e : Ent) (a : Option Addr) (n c : Nat) : List Value := .int .i64 e.kind :: (bv e.dig ++ [.slice a n c, .bool e.gone])
structure OkE (e : Ent) : Prop where
 dig : e.dig.length = 32
 lt : ∀ u ∈ e.dig, u < 256
 lo : -9223372036854775808 ≤ e.kind
 hi : e.kind ≤ 9223372036854775807
 data : e.data.length ≤ 1000000
def EV (K : Nat → Prop) (w : World) (e : Ent) (r : List Value) : Prop := OkE e ∧ ∃ a n c, r = entC e a n c ∧ BK K w a n c e.data
structure ES (K : Nat → Prop) (w : World) (a : Option Addr) (n c : Nat) (l : List Ent) : Prop where
 rs : RS 35 (EV K) K w a n c l
 bd : n ≤ 100000

theorem entC_length {e : Ent} (h : e.dig.length = 32) (a : Option Addr) (n c : Nat) : (entC e a n c).length = 35 := by simp [entC, bv_length, h]
theorem entC_one (e : Ent) (a : Option Addr) (n c : Nat) : ∀ u ∈ entC e a n c, u.oneCell' = true := by
 intro u hu
 simp only [entC, List.mem_cons, List.mem_append, List.not_mem_nil, or_false] at hu
 rcases hu with rfl | hu | rfl | rfl
 · rfl
 · exact bv_one _ u hu
 · rfl
 · rfl
theorem entC_kind (e : Ent) (a : Option Addr) (n c : Nat) : (entC e a n c)[0]? = some (.int .i64 e.kind) := rfl
theorem entC_dig {e : Ent} {j x : Nat} (h : e.dig[j]? = some x) (a : Option Addr) (n c : Nat) : (entC e a n c)[j + 1]? = some (.int .u8 (x : Int)) := by
 have hj := (List.getElem?_eq_some_iff.1 h).1
 rw [entC, List.getElem?_cons_succ, List.getElem?_append_left (by rw [bv_length]; exact hj)]
 exact bv_get h
theorem entC_data {e : Ent} (h : e.dig.length = 32) (a : Option Addr) (n c : Nat) : (entC e a n c)[33]? = some (.slice a n c) := by
 rw [entC, List.getElem?_cons_succ, List.getElem?_append_right (by rw [bv_length, h]; exact Nat.le_refl _), bv_length, h]
 rfl
theorem entC_gone {e : Ent} (h : e.dig.length = 32) (a : Option Addr) (n c : Nat) : (entC e a n c)[34]? = some (.bool e.gone) := by
 rw [entC, List.getElem?_cons_succ, List.getElem?_append_right (by rw [bv_length, h]; omega), bv_length, h]
 rfl
theorem entC_set {e : Ent} (h : e.dig.length = 32) (a a' : Option Addr) (n c n' c' : Nat) : (entC e a n c).set 33 (.slice a' n' c') = entC e a' n' c' := by
 rw [entC, List.set_cons_succ, List.set_append_right _ _ (by rw [bv_length, h]; exact Nat.le_refl _), bv_length, h]
 rfl

section
variable {K K' : Nat → Prop} {w w' : World} {a : Option Addr} {n c : Nat} {l : List Ent}
theorem EV.keep {e : Ent} {r : List Value} (h : EV K w e r) (hk : Keeps K w w') : EV K w' e r := by
 obtain ⟨ho, a, n, c, hr, hb⟩ := h
 exact ⟨ho, a, n, c, hr, hb.keep hk⟩
theorem EV.imp {e : Ent} {r : List Value} (h : EV K w e r) (hK : ∀ b, b < w.heap.size → K b → K' b) : EV K' w e r := by
 obtain ⟨ho, a, n, c, hr, hb⟩ := h
 exact ⟨ho, a, n, c, hr, hb.imp hK⟩
theorem EV.one {e : Ent} {r : List Value} (h : EV K w e r) : ∀ u ∈ r, u.oneCell' = true := by
 obtain ⟨_, a, n, c, rfl, _⟩ := h
 exact entC_one _ _ _ _
theorem EV.len {e : Ent} {r : List Value} (h : EV K w e r) : r.length = 35 := by
 obtain ⟨ho, a, n, c, rfl, _⟩ := h
 exact entC_length ho.dig _ _ _
theorem ES.keep (h : ES K w a n c l) (hk : Keeps K w w') : ES K w' a n c l := ⟨h.rs.keep hk fun _ _ hr => hr.keep hk, h.bd⟩
theorem ES.below (h : ES K w a n c l) (hb : Below w.heap.size w w') : ES K w' a n c l := h.keep (.below hb)
theorem ES.imp (h : ES K w a n c l) (hK : ∀ b, b < w.heap.size → K b → K' b) : ES K' w a n c l := ⟨h.rs.imp hK fun _ _ hr => hr.imp hK, h.bd⟩
theorem ES.nil0 (K : Nat → Prop) (w : World) : ES K w none 0 0 [] := ⟨.nil0 _ K w, Nat.zero_le _⟩
end

end Go.Proofs.YtnonfdcbnkdmcaaGreatDoor
namespace Go.Proofs.YtnonfdcbnkdmcaaGreatDoor
open Go.RowKit Go.Mem
open Go.Sto (Ent Lg)

def ClK (w0 g k i b : Nat) : Prop := b ≠ g ∧ (i < k → w0 ≤ b)
structure ClI (w : World) (g : Nat) (l : List Ent) (rest : List Value) (k : Nat) (wr : World) : Prop where
 ex : ∃ rows : List (List Value), Blk wr g 75 (rows.flatten ++ rest) ∧ rows.length = l.length ∧ (∀ r ∈ rows, r.length = 35) ∧ ∀ (i : Nat) e r, l[i]? = some e → rows[i]? = some r → EV (ClK w.heap.size g k i) wr e r
 below : Below w.heap.size w wr
 hg : w.heap.size ≤ g

section
variable {w wr w2 : World} {g k : Nat} {l : List Ent} {rest : List Value} {e : Ent}
theorem ClI.get (h : ClI w g l rest k wr) (he : l[k]? = some e) : ∃ a n c, OkE e ∧ BW wr a n c e.data ∧ wr.cell? ⟨g, k * 35 + 33, none⟩ = some (.slice a n c) ∧ wr.frozen? ⟨g, k * 35 + 33, none⟩ = false := by
 obtain ⟨rows, hB, hl, hs, hr⟩ := h.ex
 have hk : k < rows.length := by rw [hl]; exact (List.getElem?_eq_some_iff.1 he).1
 obtain ⟨ho, a, n, c, er, hb⟩ := hr k e rows[k] he (List.getElem?_eq_getElem hk)
 refine ⟨a, n, c, ho, hb.bs, hB.at_ ?_, hB.frozen _⟩
 have := flat_get (i := k) (j := 33) hs (List.getElem?_eq_getElem hk) (u := .slice a n c) (by rw [er]; exact entC_data ho.dig _ _ _)
 rw [List.getElem?_append_left (List.getElem?_eq_some_iff.1 this).1]
 exact this
theorem ClI.step (h : ClI w g l rest k wr) (he : l[k]? = some e) (hb : Below wr.heap.size wr w2) {a' : Option Addr} {n' c' : Nat} (hd : BK (fun b => wr.heap.size ≤ b) w2 a' n' c' e.data) : ClI w g l rest (k + 1) (w2.setCell ⟨g, k * 35 + 33, none⟩ (.slice a' n' c')) := by
 obtain ⟨rows, hB, hl, hs, hr⟩ := h.ex
 have hk : k < rows.length := by rw [hl]; exact (List.getElem?_eq_some_iff.1 he).1
 have hrk : rows[k]? = some rows[k] := List.getElem?_eq_getElem hk
 obtain ⟨ho, a, n, c, er, _⟩ := hr k e rows[k] he hrk
 have hsize := h.below.size
 have hkeep : Keeps (fun b => b ≠ g) w2 (w2.setCell ⟨g, k * 35 + 33, none⟩ (.slice a' n' c')) := ⟨by simp [World.setCell], fun b _ hbg => Below.heap_setCell w2 ⟨g, k * 35 + 33, none⟩ _ b hbg⟩
 refine ⟨⟨rows.set k (rows[k].set 33 (.slice a' n' c')), ?_, by simpa using hl, ?_, ?_⟩, ?_, h.hg⟩
 · have := (hB.below hb hB.lt).set (k * 35 + 33) (.slice a' n' c')
   rw [List.set_append_left _ _ (by rw [flat_len hs]; omega)] at this
   rw [flat_set _ hs hrk (by omega)]
   exact this
 · intro r hr'
   rcases List.mem_or_eq_of_mem_set hr' with hr' | rfl
   · exact hs r hr'
   · rw [List.length_set]; exact hs _ (List.getElem_mem hk)
 · intro i e' r' he' hr'
   by_cases hik : i = k
   · subst hik
     rw [List.getElem?_set_self hk] at hr'
     rw [he] at he'
     cases he'; cases hr'
     rw [er, entC_set ho.dig]
     refine ⟨ho, a', n', c', rfl, (hd.imp (K' := ClK w.heap.size g (i + 1) i) fun b _ hb2 => ⟨?_, fun _ => Nat.le_trans hsize hb2⟩).keep (hkeep.imp fun b hb2 => hb2.1)⟩
     have := hB.lt
     omega
   · rw [List.getElem?_set_ne (Ne.symm hik)] at hr'
     have h1 := (hr i e' r' he' hr').keep (.below hb)
     exact (h1.keep (hkeep.imp fun b hb2 => hb2.1)).imp fun b _ hb2 => ⟨hb2.1, fun hi => hb2.2 (by omega)⟩
 · exact (h.below.trans (hb.mono hsize)).setCell h.hg _
theorem ClI.done (h : ClI w g l rest l.length wr) {cap : Nat} (hc : l.length ≤ cap) (hcm : cap ≤ maxLen) (hn : l.length ≤ 100000) : ES (fun b => w.heap.size ≤ b) wr (some ⟨g, 0, none⟩) l.length cap l := by
 obtain ⟨rows, hB, hl, hs, hr⟩ := h.ex
 refine ⟨⟨rfl, fun _ ad e => by cases e; exact h.hg, rows, ⟨by rw [flat_len hs, hl], hc, hcm, fun e => (by cases e), fun _ => ⟨g, 0, rfl, hB.lt, fun j u hj => hB.at_ ?_⟩⟩, hl, hs, fun i e r he hre => ?_⟩, hn⟩
 · rw [Nat.zero_add, List.getElem?_append_left (List.getElem?_eq_some_iff.1 hj).1]
   exact hj
 · exact (hr i e r he hre).imp fun b _ hb => hb.2 (List.getElem?_eq_some_iff.1 he).1
end

end Go.Proofs.YtnonfdcbnkdmcaaGreatDoor
namespace Go.Proofs.YtnonfdcbnkdmcaaGreatDoor
open Go.RowKit Go.Mem
open Go.Sto (Ent Lg St)

def I64 (x : Int) : Prop := -9223372036854775808 ≤ x ∧ x ≤ 9223372036854775807
def logC (f : Int) (a : Option Addr) (n c : Nat) : List Value := [.int .i64 f, .slice a n c]
def LV (K : Nat → Prop) (w : World) (x : Lg) (r : List Value) : Prop := I64 x.folder ∧ ∃ a n c, r = logC x.folder a n c ∧ ES K w a n c x.es
structure LS (K : Nat → Prop) (w : World) (a : Option Addr) (n c : Nat) (l : List Lg) : Prop where
 rs : RS 2 (LV K) K w a n c l
 bd : n ≤ 100000
def stC (s : St) (a : Option Addr) (n c : Nat) : List Value := [.int .i64 s.id, .int .i64 s.priv, .slice a n c]
structure SV (K : Nat → Prop) (w : World) (a : Option Addr) (n c : Nat) (s : St) : Prop where
 ls : LS K w a n c s.logs
 id : I64 s.id
 priv : I64 s.priv

section
variable {K K' : Nat → Prop} {w w' : World} {a : Option Addr} {n c : Nat} {l : List Lg} {s : St}
theorem LV.keep {x : Lg} {r : List Value} (h : LV K w x r) (hk : Keeps K w w') : LV K w' x r := by
 obtain ⟨ho, a, n, c, hr, hb⟩ := h
 exact ⟨ho, a, n, c, hr, hb.keep hk⟩
theorem LV.imp {x : Lg} {r : List Value} (h : LV K w x r) (hK : ∀ b, b < w.heap.size → K b → K' b) : LV K' w x r := by
 obtain ⟨ho, a, n, c, hr, hb⟩ := h
 exact ⟨ho, a, n, c, hr, hb.imp hK⟩
theorem LV.one {x : Lg} {r : List Value} (h : LV K w x r) : ∀ u ∈ r, u.oneCell' = true := by
 obtain ⟨_, a, n, c, rfl, _⟩ := h
 intro u hu
 simp only [logC, List.mem_cons, List.not_mem_nil, or_false] at hu
 rcases hu with rfl | rfl <;> rfl
theorem LS.keep (h : LS K w a n c l) (hk : Keeps K w w') : LS K w' a n c l := ⟨h.rs.keep hk fun _ _ hr => hr.keep hk, h.bd⟩
theorem LS.below (h : LS K w a n c l) (hb : Below w.heap.size w w') : LS K w' a n c l := h.keep (.below hb)
theorem LS.imp (h : LS K w a n c l) (hK : ∀ b, b < w.heap.size → K b → K' b) : LS K' w a n c l := ⟨h.rs.imp hK fun _ _ hr => hr.imp hK, h.bd⟩
theorem LS.nil0 (K : Nat → Prop) (w : World) : LS K w none 0 0 [] := ⟨.nil0 _ K w, Nat.zero_le _⟩
theorem SV.below (h : SV K w a n c s) (hb : Below w.heap.size w w') : SV K w' a n c s := ⟨h.ls.below hb, h.id, h.priv⟩
theorem SV.keep (h : SV K w a n c s) (hk : Keeps K w w') : SV K w' a n c s := ⟨h.ls.keep hk, h.id, h.priv⟩
theorem SV.imp (h : SV K w a n c s) (hK : ∀ b, b < w.heap.size → K b → K' b) : SV K' w a n c s := ⟨h.ls.imp hK, h.id, h.priv⟩
end

end Go.Proofs.YtnonfdcbnkdmcaaGreatDoor
namespace Go.Proofs.YtnonfdcbnkdmcaaGreatDoor
open Go.RowKit Go.Mem
open Go.Sto (Ent Lg St)

def CpK (w0 g tb k i b : Nat) : Prop := b ≠ g ∧ b ≠ tb ∧ (i < k → w0 ≤ b)
structure CpI (w : World) (sb tb g : Nat) (s : St) (cap : Nat) (rest : List Value) (k : Nat) (wr : World) : Prop where
 ex : ∃ rows : List (List Value), Blk wr g 121 (rows.flatten ++ rest) ∧ rows.length = s.logs.length ∧ (∀ r ∈ rows, r.length = 2) ∧ ∀ (i : Nat) x r, s.logs[i]? = some x → rows[i]? = some r → LV (CpK w.heap.size g tb k i) wr x r
 sbB : Blk wr sb 24 (stC s (some ⟨g, 0, none⟩) s.logs.length cap)
 tbB : ∃ x0 x1 x2, Blk wr tb 24 [x0, x1, x2]
 below : Below w.heap.size w wr
 hg : w.heap.size ≤ g
 htb : w.heap.size ≤ tb
 ne : g ≠ sb ∧ g ≠ tb ∧ sb ≠ tb

section
variable {w wr w2 : World} {sb tb g k cap : Nat} {s : St} {rest : List Value} {x : Lg}
theorem CpI.get (h : CpI w sb tb g s cap rest k wr) (hx : s.logs[k]? = some x) : ∃ a n c, I64 x.folder ∧ ES (fun b => b ≠ g) wr a n c x.es ∧ wr.cell? ⟨g, k * 2 + 1, none⟩ = some (.slice a n c) ∧ wr.frozen? ⟨g, k * 2 + 1, none⟩ = false := by
 obtain ⟨rows, hB, hl, hs, hr⟩ := h.ex
 have hk : k < rows.length := by rw [hl]; exact (List.getElem?_eq_some_iff.1 hx).1
 obtain ⟨ho, a, n, c, er, hb⟩ := hr k x rows[k] hx (List.getElem?_eq_getElem hk)
 refine ⟨a, n, c, ho, hb.imp fun b _ hb => hb.1, hB.at_ ?_, hB.frozen _⟩
 have := flat_get (i := k) (j := 1) hs (List.getElem?_eq_getElem hk) (u := .slice a n c) (by rw [er]; rfl)
 rw [List.getElem?_append_left (List.getElem?_eq_some_iff.1 this).1]
 exact this
theorem CpI.step (h : CpI w sb tb g s cap rest k wr) (hx : s.logs[k]? = some x) (hb : Below wr.heap.size wr w2) {a' : Option Addr} {n' c' : Nat} (hd : ES (fun b => wr.heap.size ≤ b) w2 a' n' c' x.es) : CpI w sb tb g s cap rest (k + 1) (w2.setCell ⟨g, k * 2 + 1, none⟩ (.slice a' n' c')) := by
 obtain ⟨rows, hB, hl, hs, hr⟩ := h.ex
 obtain ⟨y0, y1, y2, htB⟩ := h.tbB
 have hk : k < rows.length := by rw [hl]; exact (List.getElem?_eq_some_iff.1 hx).1
 have hrk : rows[k]? = some rows[k] := List.getElem?_eq_getElem hk
 obtain ⟨ho, a, n, c, er, _⟩ := hr k x rows[k] hx hrk
 have hsize := h.below.size
 have hkeep : Keeps (fun b => b ≠ g) w2 (w2.setCell ⟨g, k * 2 + 1, none⟩ (.slice a' n' c')) := ⟨by simp [World.setCell], fun b _ hbg => Below.heap_setCell w2 ⟨g, k * 2 + 1, none⟩ _ b hbg⟩
 refine ⟨⟨rows.set k (rows[k].set 1 (.slice a' n' c')), ?_, by simpa using hl, ?_, ?_⟩, (h.sbB.below hb h.sbB.lt).far (Ne.symm h.ne.1) _, ⟨y0, y1, y2, (htB.below hb htB.lt).far (Ne.symm h.ne.2.1) _⟩, ?_, h.hg, h.htb, h.ne⟩
 · have := (hB.below hb hB.lt).set (k * 2 + 1) (.slice a' n' c')
   rw [List.set_append_left _ _ (by rw [flat_len hs]; omega)] at this
   rw [flat_set _ hs hrk (by omega)]
   exact this
 · intro r hr'
   rcases List.mem_or_eq_of_mem_set hr' with hr' | rfl
   · exact hs r hr'
   · rw [List.length_set]; exact hs _ (List.getElem_mem hk)
 · intro i x' r' hx' hr'
   by_cases hik : i = k
   · subst hik
     rw [List.getElem?_set_self hk] at hr'
     rw [hx] at hx'
     cases hx'; cases hr'
     rw [er]
     refine ⟨ho, a', n', c', rfl, (hd.imp (K' := CpK w.heap.size g tb (i + 1) i) fun b _ hb2 => ⟨?_, ?_, fun _ => Nat.le_trans hsize hb2⟩).keep (hkeep.imp fun b hb2 => hb2.1)⟩
     · have := hB.lt
       omega
     · have := htB.lt
       omega
   · rw [List.getElem?_set_ne (Ne.symm hik)] at hr'
     have h1 := (hr i x' r' hx' hr').keep (.below hb)
     exact (h1.keep (hkeep.imp fun b hb2 => hb2.1)).imp fun b _ hb2 => ⟨hb2.1, hb2.2.1, fun hi => hb2.2.2 (by omega)⟩
 · exact (h.below.trans (hb.mono hsize)).setCell h.hg _
theorem CpI.done (h : CpI w sb tb g s cap rest s.logs.length wr) (hc : s.logs.length ≤ cap) (hcm : cap ≤ maxLen) (hn : s.logs.length ≤ 100000) : LS (fun b => w.heap.size ≤ b ∧ b ≠ tb) wr (some ⟨g, 0, none⟩) s.logs.length cap s.logs := by
 obtain ⟨rows, hB, hl, hs, hr⟩ := h.ex
 refine ⟨⟨rfl, fun _ ad e => by cases e; exact ⟨h.hg, h.ne.2.1⟩, rows, ⟨by rw [flat_len hs, hl], hc, hcm, fun e => (by cases e), fun _ => ⟨g, 0, rfl, hB.lt, fun j u hj => hB.at_ ?_⟩⟩, hl, hs, fun i e r he hre => ?_⟩, hn⟩
 · rw [Nat.zero_add, List.getElem?_append_left (List.getElem?_eq_some_iff.1 hj).1]
   exact hj
 · exact (hr i e r he hre).imp fun b _ hb => ⟨hb.2.2 (List.getElem?_eq_some_iff.1 he).1, hb.2.1⟩
end

theorem CpI.head {w wr w2 : World} {sb tb g k cap : Nat} {s : St} {rest : List Value} (h : CpI w sb tb g s cap rest k wr) (hb : Below wr.heap.size wr w2) : w2.cell? ⟨sb, 2, none⟩ = some (.slice (some ⟨g, 0, none⟩) s.logs.length cap) := (h.sbB.below hb h.sbB.lt).at_ (i := 2) rfl
theorem copied_set {W : World} {tb : Nat} {t : TypeId} {x0 x1 x2 : Value} (h : Blk W tb t [x0, x1, x2]) (y0 y1 y2 : Value) : Blk (((W.setCell ⟨tb, 0, none⟩ y0).setCell ⟨tb, 1, none⟩ y1).setCell ⟨tb, 2, none⟩ y2) tb t [y0, y1, y2] := ((h.set 0 y0).set 1 y1).set 2 y2
end Go.Proofs.YtnonfdcbnkdmcaaGreatDoor
namespace Go.Proofs.YtnonfdcbnkdmcaaGreatDoor
open Go.RowKit Go.Mem
open Go.Sto (Ent Lg St)

theorem LS.cells {K : Nat → Prop} {w : World} {a : Option Addr} {n c : Nat} {l : List Lg} (h : LS K w a n c l) {k : Nat} {x : Lg} (hx : l[k]? = some x) :
 ∃ b off ea en ec, a = some ⟨b, off, none⟩ ∧ b < w.heap.size ∧ K b ∧ I64 x.folder ∧ ES K w ea en ec x.es ∧ w.cell? ⟨b, off + k * 2, none⟩ = some (.int .i64 x.folder) ∧ w.cell? ⟨b, off + k * 2 + 1, none⟩ = some (.slice ea en ec) := by
 obtain ⟨b, off, r, rfl, hb, hK, hR, _, hg⟩ := h.rs.get hx
 obtain ⟨hf, ea, en, ec, rfl, hes⟩ := hR
 exact ⟨b, off, ea, en, ec, rfl, hb, hK, hf, hes, by simpa using hg 0 _ rfl, hg 1 _ rfl⟩

structure Book (K : Nat → Prop) (w : World) (bb : Nat) (s : St) : Prop where
 ex : ∃ t a n c, Blk w bb t (stC s a n c) ∧ SV K w a n c s
theorem Book.below {K : Nat → Prop} {w w' : World} {bb : Nat} {s : St} (h : Book K w bb s) (hb : Below w.heap.size w w') : Book K w' bb s := by
 obtain ⟨t, a, n, c, h1, h2⟩ := h.ex
 exact ⟨t, a, n, c, h1.below hb h1.lt, h2.below hb⟩
theorem Book.lt {K : Nat → Prop} {w : World} {bb : Nat} {s : St} (h : Book K w bb s) : bb < w.heap.size := by
 obtain ⟨t, a, n, c, h1, h2⟩ := h.ex
 exact h1.lt

end Go.Proofs.YtnonfdcbnkdmcaaGreatDoor
namespace Go.Proofs.YtnonfdcbnkdmcaaGreatDoor
open Go.RowKit Go.Mem
open Go.Sto (Ent Lg St)

end Go.Proofs.YtnonfdcbnkdmcaaGreatDoor

