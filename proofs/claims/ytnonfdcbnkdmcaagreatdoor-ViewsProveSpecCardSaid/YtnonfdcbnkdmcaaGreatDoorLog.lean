/- logs and stores in memory; store.copied store.copied -/
import Derived.Test.YtnonfdcbnkdmcaaGreatDoorLst
import Derived.Deep.RegionHeld3
import Derived.Laws.ResultCell
namespace Go.Proofs.YtnonfdcbnkdmcaaGreatDoor
open Go.RowKit Go.Mem
open Go.Sto (Ent Lg St)

def I64 (x : Int) : Prop := -9223372036854775808 ≤ x ∧ x ≤ 9223372036854775807
def logC (f : Int) (a : Option Addr) (n c : Nat) : List Value := [.int .i64 f, .slice a n c]
def LV (K : Nat → Prop) (w : World) (x : Lg) (r : List Value) : Prop := I64 x.folder ∧ ∃ a n c, r = logC x.folder a n c ∧ ES K w a n c x.es
structure LS (K : Nat → Prop) (w : World) (a : Option Addr) (n c : Nat) (l : List Lg) : Prop where
 rs : RS 2 (LV K) K w a n c l
 bd : n ≤ 100000
def stC (s : St) (a : Option Addr) (n c : Nat) : List Value := [.int .i64 s.id, .int .i64 s.priv, .slice a n c]
structure SV (K : Nat → Prop) (w : World) (a : Option Addr) (n c : Nat) (s : St) : Prop where
 ls : LS K w a n c s.logs
 id : I64 s.id
 priv : I64 s.priv

section
variable {K K' : Nat → Prop} {w w' : World} {a : Option Addr} {n c : Nat} {l : List Lg} {s : St}
theorem LV.keep {x : Lg} {r : List Value} (h : LV K w x r) (hk : Keeps K w w') : LV K w' x r := by
 obtain ⟨ho, a, n, c, hr, hb⟩ := h
 exact ⟨ho, a, n, c, hr, hb.keep hk⟩
theorem LV.imp {x : Lg} {r : List Value} (h : LV K w x r) (hK : ∀ b, b < w.heap.size → K b → K' b) : LV K' w x r := by
 obtain ⟨ho, a, n, c, hr, hb⟩ := h
 exact ⟨ho, a, n, c, hr, hb.imp hK⟩
theorem LV.one {x : Lg} {r : List Value} (h : LV K w x r) : ∀ u ∈ r, u.oneCell' = true := by
 obtain ⟨_, a, n, c, rfl, _⟩ := h
 intro u hu
 simp only [logC, List.mem_cons, List.not_mem_nil, or_false] at hu
 rcases hu with rfl | rfl <;> rfl
theorem LS.keep (h : LS K w a n c l) (hk : Keeps K w w') : LS K w' a n c l := ⟨h.rs.keep hk fun _ _ hr => hr.keep hk, h.bd⟩
theorem LS.below (h : LS K w a n c l) (hb : Below w.heap.size w w') : LS K w' a n c l := h.keep (.below hb)
theorem LS.imp (h : LS K w a n c l) (hK : ∀ b, b < w.heap.size → K b → K' b) : LS K' w a n c l := ⟨h.rs.imp hK fun _ _ hr => hr.imp hK, h.bd⟩
theorem LS.nil0 (K : Nat → Prop) (w : World) : LS K w none 0 0 [] := ⟨.nil0 _ K w, Nat.zero_le _⟩
theorem SV.below (h : SV K w a n c s) (hb : Below w.heap.size w w') : SV K w' a n c s := ⟨h.ls.below hb, h.id, h.priv⟩
theorem SV.keep (h : SV K w a n c s) (hk : Keeps K w w') : SV K w' a n c s := ⟨h.ls.keep hk, h.id, h.priv⟩
theorem SV.imp (h : SV K w a n c s) (hK : ∀ b, b < w.heap.size → K b → K' b) : SV K' w a n c s := ⟨h.ls.imp hK, h.id, h.priv⟩
end

end Go.Proofs.YtnonfdcbnkdmcaaGreatDoor
namespace Go.Proofs.YtnonfdcbnkdmcaaGreatDoor
open Go.RowKit Go.Mem
open Go.Sto (Ent Lg St)

theorem size26 : (Tryz.prog.info? 24).map (·.size) = some 3 := by kernel_rfl

def CpK (w0 g tb k i b : Nat) : Prop := b ≠ g ∧ b ≠ tb ∧ (i < k → w0 ≤ b)
structure CpI (w : World) (sb tb g : Nat) (s : St) (cap : Nat) (rest : List Value) (k : Nat) (wr : World) : Prop where
 ex : ∃ rows : List (List Value), Blk wr g 121 (rows.flatten ++ rest) ∧ rows.length = s.logs.length ∧ (∀ r ∈ rows, r.length = 2) ∧ ∀ (i : Nat) x r, s.logs[i]? = some x → rows[i]? = some r → LV (CpK w.heap.size g tb k i) wr x r
 sbB : Blk wr sb 24 (stC s (some ⟨g, 0, none⟩) s.logs.length cap)
 tbB : ∃ x0 x1 x2, Blk wr tb 24 [x0, x1, x2]
 below : Below w.heap.size w wr
 hg : w.heap.size ≤ g
 htb : w.heap.size ≤ tb
 ne : g ≠ sb ∧ g ≠ tb ∧ sb ≠ tb

section
variable {w wr w2 : World} {sb tb g k cap : Nat} {s : St} {rest : List Value} {x : Lg}
theorem CpI.get (h : CpI w sb tb g s cap rest k wr) (hx : s.logs[k]? = some x) : ∃ a n c, I64 x.folder ∧ ES (fun b => b ≠ g) wr a n c x.es ∧ wr.cell? ⟨g, k * 2 + 1, none⟩ = some (.slice a n c) ∧ wr.frozen? ⟨g, k * 2 + 1, none⟩ = false := by
 obtain ⟨rows, hB, hl, hs, hr⟩ := h.ex
 have hk : k < rows.length := by rw [hl]; exact (List.getElem?_eq_some_iff.1 hx).1
 obtain ⟨ho, a, n, c, er, hb⟩ := hr k x rows[k] hx (List.getElem?_eq_getElem hk)
 refine ⟨a, n, c, ho, hb.imp fun b _ hb => hb.1, hB.at_ ?_, hB.frozen _⟩
 have := flat_get (i := k) (j := 1) hs (List.getElem?_eq_getElem hk) (u := .slice a n c) (by rw [er]; rfl)
 rw [List.getElem?_append_left (List.getElem?_eq_some_iff.1 this).1]
 exact this
theorem CpI.cell2 (h : CpI w sb tb g s cap rest k wr) (hb : Below wr.heap.size wr w2) {p : Nat} {v : Value} (hc : wr.cell? ⟨g, p, none⟩ = some v) : w2.cell? ⟨g, p, none⟩ = some v ∧ w2.frozen? ⟨g, p, none⟩ = false := by
 obtain ⟨rows, hB, _⟩ := h.ex
 exact ⟨(hb.cell (p := ⟨g, p, none⟩) hB.lt).trans hc, (hB.below hb hB.lt).frozen p⟩
theorem CpI.step (h : CpI w sb tb g s cap rest k wr) (hx : s.logs[k]? = some x) (hb : Below wr.heap.size wr w2) {a' : Option Addr} {n' c' : Nat} (hd : ES (fun b => wr.heap.size ≤ b) w2 a' n' c' x.es) : CpI w sb tb g s cap rest (k + 1) (w2.setCell ⟨g, k * 2 + 1, none⟩ (.slice a' n' c')) := by
 obtain ⟨rows, hB, hl, hs, hr⟩ := h.ex
 obtain ⟨y0, y1, y2, htB⟩ := h.tbB
 have hk : k < rows.length := by rw [hl]; exact (List.getElem?_eq_some_iff.1 hx).1
 have hrk : rows[k]? = some rows[k] := List.getElem?_eq_getElem hk
 obtain ⟨ho, a, n, c, er, _⟩ := hr k x rows[k] hx hrk
 have hsize := h.below.size
 have hkeep : Keeps (fun b => b ≠ g) w2 (w2.setCell ⟨g, k * 2 + 1, none⟩ (.slice a' n' c')) := ⟨by simp [World.setCell], fun b _ hbg => Below.heap_setCell w2 ⟨g, k * 2 + 1, none⟩ _ b hbg⟩
 refine ⟨⟨rows.set k (rows[k].set 1 (.slice a' n' c')), ?_, by simpa using hl, ?_, ?_⟩, (h.sbB.below hb h.sbB.lt).far (Ne.symm h.ne.1) _, ⟨y0, y1, y2, (htB.below hb htB.lt).far (Ne.symm h.ne.2.1) _⟩, ?_, h.hg, h.htb, h.ne⟩
 · have := (hB.below hb hB.lt).set (k * 2 + 1) (.slice a' n' c')
   rw [List.set_append_left _ _ (by rw [flat_len hs]; omega)] at this
   rw [flat_set _ hs hrk (by omega)]
   exact this
 · intro r hr'
   rcases List.mem_or_eq_of_mem_set hr' with hr' | rfl
   · exact hs r hr'
   · rw [List.length_set]; exact hs _ (List.getElem_mem hk)
 · intro i x' r' hx' hr'
   by_cases hik : i = k
   · subst hik
     rw [List.getElem?_set_self hk] at hr'
     rw [hx] at hx'
     cases hx'; cases hr'
     rw [er]
     refine ⟨ho, a', n', c', rfl, (hd.imp (K' := CpK w.heap.size g tb (i + 1) i) fun b _ hb2 => ⟨?_, ?_, fun _ => Nat.le_trans hsize hb2⟩).keep (hkeep.imp fun b hb2 => hb2.1)⟩
     · have := hB.lt
       omega
     · have := htB.lt
       omega
   · rw [List.getElem?_set_ne (Ne.symm hik)] at hr'
     have h1 := (hr i x' r' hx' hr').keep (.below hb)
     exact (h1.keep (hkeep.imp fun b hb2 => hb2.1)).imp fun b _ hb2 => ⟨hb2.1, hb2.2.1, fun hi => hb2.2.2 (by omega)⟩
 · exact (h.below.trans (hb.mono hsize)).setCell h.hg _
theorem CpI.done (h : CpI w sb tb g s cap rest s.logs.length wr) (hc : s.logs.length ≤ cap) (hcm : cap ≤ maxLen) (hn : s.logs.length ≤ 100000) : LS (fun b => w.heap.size ≤ b ∧ b ≠ tb) wr (some ⟨g, 0, none⟩) s.logs.length cap s.logs := by
 obtain ⟨rows, hB, hl, hs, hr⟩ := h.ex
 refine ⟨⟨rfl, fun _ ad e => by cases e; exact ⟨h.hg, h.ne.2.1⟩, rows, ⟨by rw [flat_len hs, hl], hc, hcm, fun e => (by cases e), fun _ => ⟨g, 0, rfl, hB.lt, fun j u hj => hB.at_ ?_⟩⟩, hl, hs, fun i e r he hre => ?_⟩, hn⟩
 · rw [Nat.zero_add, List.getElem?_append_left (List.getElem?_eq_some_iff.1 hj).1]
   exact hj
 · exact (hr i e r he hre).imp fun b _ hb => ⟨hb.2.2 (List.getElem?_eq_some_iff.1 he).1, hb.2.1⟩
end

def StPost (s : St) (w : World) (e : Ending) (w' : World) : Prop := ∃ a c, e = .returned (.agg #[.int .i64 s.id, .int .i64 s.priv, .slice a s.logs.length c]) ∧ SV (fun b => w.heap.size ≤ b) w' a s.logs.length c s ∧ Below w.heap.size w w'

theorem CpI.head {w wr w2 : World} {sb tb g k cap : Nat} {s : St} {rest : List Value} (h : CpI w sb tb g s cap rest k wr) (hb : Below wr.heap.size wr w2) : w2.cell? ⟨sb, 2, none⟩ = some (.slice (some ⟨g, 0, none⟩) s.logs.length cap) := (h.sbB.below hb h.sbB.lt).at_ (i := 2) rfl
theorem copied_set {W : World} {tb : Nat} {t : TypeId} {x0 x1 x2 : Value} (h : Blk W tb t [x0, x1, x2]) (y0 y1 y2 : Value) : Blk (((W.setCell ⟨tb, 0, none⟩ y0).setCell ⟨tb, 1, none⟩ y1).setCell ⟨tb, 2, none⟩ y2) tb t [y0, y1, y2] := ((h.set 0 y0).set 1 y1).set 2 y2
theorem copied_keeps {K : Nat → Prop} (W : World) (tb : Nat) (y0 y1 y2 : Value) : Keeps (fun b => K b ∧ b ≠ tb) W (((W.setCell ⟨tb, 0, none⟩ y0).setCell ⟨tb, 1, none⟩ y1).setCell ⟨tb, 2, none⟩ y2) :=
 ⟨by simp [World.setCell], fun b _ hb => ((Below.heap_setCell _ ⟨tb, 2, none⟩ _ b hb.2).trans ((Below.heap_setCell _ ⟨tb, 1, none⟩ _ b hb.2))).trans (Below.heap_setCell _ ⟨tb, 0, none⟩ _ b hb.2)⟩
theorem store_ret {W : World} {tb : Nat} {x0 x1 x2 : Value} (hB : Blk W tb 24 [x0, x1, x2]) {fn : Func} {p : Tmp} (h : fn.results = #[.cell p 24]) {a : Act} (hp : a.tmps.getD p undef = .pointer (some ⟨tb, 0, none⟩)) (hd : a.defers = []) {Post : Ending → World → Prop} (hP : Post (.returned (.agg #[x0, x1, x2])) W) :
 bodyPost Tryz.prog fn Post .ret a W :=
 bodyPost_ret (results_cell_row h _ _ tb 24 #[x0, x1, x2] (0, 0) _ hp hB Tryz.underlying24 rfl size26) hd hP

set_option maxRecDepth 20000 in
set_option maxHeartbeats 2000000 in
theorem copied_any (K : Nat → Prop) (a : Option Addr) (n c : Nat) (s : St) (w : World) (H : SV K w a n c s) :
 Calls Tryz.prog 74 #[.agg #[.int .i64 s.id, .int .i64 s.priv, .slice a n c]] w (StPost s w) := by
 obtain ⟨rows, hR, hO⟩ := H.ls.rs.rows
 have hbd := H.ls.bd
 have hlen := H.ls.rs.len
 obtain ⟨sb, hsb⟩ : ∃ sb, Hid (w.heap.size = sb) := ⟨_, rfl⟩
 have hid := H.id
 have hpr := H.priv
 go_enter Tryz.func74, Tryz.ntmps74
 go_wp2_with fail
 rw [hsb.out]
 obtain ⟨W, hW⟩ : ∃ W, W = (w.alloc (.cells #[.int .i64 s.id, .int .i64 s.priv, .slice a n c] 24)).alloc (.cells #[.int .i64 0, .int .i64 0, .slice none 0 0] 24) := ⟨_, rfl⟩
 have hsB : Hid (Blk W sb 24 (stC s a n c)) := by rw [hW, ← hsb.out]; exact (Blk.new w _ (stC s a n c)).alloc _
 have htB : Hid (Blk W (sb + 1) 24 [.int .i64 0, .int .i64 0, .slice none 0 0]) := by
  have := Blk.new (w.alloc (.cells #[.int .i64 s.id, .int .i64 s.priv, .slice a n c] 24)) 24 [.int .i64 0, .int .i64 0, .slice none 0 0]
  rw [show (w.alloc (.cells #[.int .i64 s.id, .int .i64 s.priv, .slice a n c] 24)).heap.size = sb + 1 by rw [← hsb.out]; simp] at this
  rw [hW]; exact this
 have hb : Hid (Below w.heap.size w W) := by rw [hW]; exact ((Below.refl _ w).alloc (Nat.le_refl _) _).alloc (by simp) _
 rw [← hW]
 have hWs : Hid (W.heap.size = sb + 1 + 1) := by show _ = _; rw [hW, ← hsb.out]; simp
 clear hW
 have hcl := Lib.hid (cloneL_any a n c rows.flatten W (hR.below hb.out (Nat.le_refl _)) (rows_one hO fun _ _ h => LV.one h) (by omega))
 refine hcl.out.mono ?_
 rintro e w1 ⟨v, rfl, hown, hb1⟩
 have hb1' := Lib.hid (hb.out.trans (hb1.mono hb.out.size))
 have hsB1 := hsB.out.below hb1 hsB.out.lt
 have htB1 := Lib.hid (htB.out.below hb1 htB.out.lt)
 obtain ⟨a', c', hv, hR', hsep⟩ := Sl.of_owns hown
 have hown' := Lib.hid hown
 subst hv
 have c2 := hsB1.at_ (i := 2) rfl
 have f2 := hsB1.frozen 2
 have hsB1' := Lib.hid hsB1
 have n63 : (n : Int) ≤ 100000 := by omega
 clear hcl hown hsB1 hsB htB hb
 go_wp2_with fail
 have hsB2 : Hid (Blk (w1.setCell ⟨sb, 2, none⟩ (.slice a' n c')) sb 24 (stC s a' n c')) := hsB1'.out.set 2 _
 have htB2 : Hid (Blk (w1.setCell ⟨sb, 2, none⟩ (.slice a' n c')) (sb + 1) 24 [.int .i64 0, .int .i64 0, .slice none 0 0]) := htB1.out.far (by simp) _
 have hb2 : Hid (Below w.heap.size w (w1.setCell ⟨sb, 2, none⟩ (.slice a' n c'))) := hb1'.out.setCell (Nat.le_of_eq hsb.out) _
 have hle := Lib.hid hb1.size
 rcases Nat.eq_zero_or_pos n with h0 | hpos
 · subst h0
   have hl0 : s.logs = [] := List.eq_nil_of_length_eq_zero hlen
   have hs0 : Hid (SV (fun b => w.heap.size ≤ b) w1 a' 0 c' s) := by
    refine ⟨⟨⟨hlen, fun h => absurd h (by omega), [], ⟨by simp, hR'.le, hR'.max, hR'.nil, fun h => absurd h (by omega)⟩, ?_⟩, Nat.zero_le _⟩, hid, hpr⟩
    rw [hl0]; exact RowsOf.nil
   have e0 := hsB2.out.at_ (i := 0) rfl
   have e1 := hsB2.out.at_ (i := 1) rfl
   have e2 := hsB2.out.at_ (i := 2) rfl
   have t0 := htB2.out.at_ (i := 0) rfl
   have t1 := htB2.out.at_ (i := 1) rfl
   have t2 := htB2.out.at_ (i := 2) rfl
   have u0 := htB2.out.frozen 0
   have u1 := htB2.out.frozen 1
   have u2 := htB2.out.frozen 2
   have hk2 : Hid (SV (fun b => w.heap.size ≤ b) (w1.setCell ⟨sb, 2, none⟩ (.slice a' 0 c')) a' 0 c' s) := by
    refine ⟨⟨⟨hlen, fun h => absurd h (by omega), [], ⟨by simp, hR'.le, hR'.max, hR'.nil, fun h => absurd h (by omega)⟩, ?_⟩, Nat.zero_le _⟩, hid, hpr⟩
    rw [hl0]; exact RowsOf.nil
   clear hs0 hsB2 hown' hR hR' hsep hb1' htB1 hb1 hWs hsB1' hle c2 f2
   generalize World.setCell w1 _ _ = w2 at *
   go_loopw [11] (fun i wr => i = .int .i64 0 ∧ wr = w2) (fun _ _ => 0)
   case atStart => exact ⟨rfl, rfl⟩
   case round =>
    obtain ⟨rfl, rfl⟩ := hrel
    go_wp2_with fail
    refine store_ret (copied_set htB2.out _ _ _) rfl rfl rfl ⟨_, _, by rw [hlen], ?_, ?_⟩
    · rw [hlen]
      refine ⟨⟨⟨hlen, fun h => absurd h (by omega), ?_⟩, Nat.zero_le _⟩, hid, hpr⟩
      obtain ⟨rows, hr, ho⟩ := hk2.out.ls.rs.rows
      refine ⟨[], ⟨by simp, hr.le, hr.max, hr.nil, fun h => absurd h (by omega)⟩, ?_⟩
      rw [hl0]; exact RowsOf.nil
    · exact ((hb2.out.setCell (by have := hsb.out; show _ ≤ sb + 1; omega) _).setCell (by have := hsb.out; show _ ≤ sb + 1; omega) _).setCell (by have := hsb.out; show _ ≤ sb + 1; omega) _
 · obtain ⟨g, cap, rest, hv, hg, hgl, hgb, hcap, hcm, hl2⟩ := Sl.owns_row hown'.out hpos
   cases hv
   have hI : Hid (CpI w sb (sb + 1) g s c' rest 0 (w1.setCell ⟨sb, 2, none⟩ (.slice (some ⟨g, 0, none⟩) n c'))) := by
    have hws := hWs.out
    have hsw := hsb.out
    refine ⟨⟨rows, (Blk.far (t := 121) (cs := rows.flatten ++ rest) hgb (show g ≠ sb by omega) _), hO.len, hO.size, fun i x r hx hr => ?_⟩, by rw [hlen]; exact hsB2.out, ⟨_, _, _, htB2.out⟩, hb2.out, by omega, by omega, by omega, by omega, by omega⟩
    have h1 := (hO.each i x r hx hr).imp (K' := CpK w.heap.size g (sb + 1) 0 i) fun b hb _ => ⟨by omega, by omega, fun h => absurd h (by omega)⟩
    exact h1.keep (.below ((Below.refl _ w).trans hb2.out))
   have hne : g ≠ sb := hI.out.ne.1
   clear hgb hl2 hown' hsB2 htB2 hb2 hR hR' hsep hb1' htB1 hb1 hWs hsB1'
   generalize World.setCell w1 _ _ = w2 at *
   go_loopw [11] (fun i wr => ∃ k : Nat, k ≤ n ∧ i = .int .i64 k ∧ Hid (CpI w sb (sb + 1) g s c' rest k wr)) (fun i _ => n - (intOf i).toNat)
   case atStart => exact ⟨0, Nat.zero_le _, rfl, hI⟩
   case round =>
    obtain ⟨k, hk, rfl, hI⟩ := hrel
    by_cases hlt : k < n
    · have hkl : k < s.logs.length := by omega
      obtain ⟨x, hx⟩ : ∃ x, s.logs[k]? = some x := ⟨_, List.getElem?_eq_getElem hkl⟩
      obtain ⟨ea, en, ec, hf, hes, c0, f0⟩ := hI.out.get hx
      have hcs := Lib.hid (fun W (hW : Below wr.heap.size wr W) => clones_any (fun b => b ≠ g) ea en ec x.es W (hes.below hW))
      have hx' := Lib.hid hx
      have k0 : (0 : Int) ≤ (k : Int) := by omega
      have k1 : (k : Int) < (n : Int) := by omega
      have s0 := hI.out.head (Below.refl _ wr)
      rw [hlen] at s0
      clear hx hes hle hcm hcap
      go_wp2_with fail
      go_region_with (first
       | (go_at_call 112; refine (hcs.out _ (Below.refl _ wr).drew).mono ?_; rintro e wq ⟨a2, cc2, rfl, hes2, hbq⟩; have hbr : Below wr.heap.size wr wq := (Below.refl _ wr).drew.trans hbq; have hc2 := hI.out.cell2 hbr c0; have hc3 := hc2.1; have hc4 := hc2.2; have s1 := hI.out.head hbr; rw [hlen] at s1))
      all_goals
       have hI2 := Lib.hid (hI.out.step hx'.out hbr hes2)
       clear s1 hc2 hc3 hc4 hbr hbq hes2 hcs hI c0 f0 s0
       go_wp2_with fail
       go_roundw
       case rel => exact ⟨k + 1, by omega, by go_num, hI2⟩
       case measure => simp [intOf]; omega
    · obtain rfl : k = n := by omega
      have hd : LS (fun b => w.heap.size ≤ b ∧ b ≠ sb + 1) wr (some ⟨g, 0, none⟩) s.logs.length c' s.logs := CpI.done (by rw [hlen]; exact hI.out) (by omega) hcm (by omega)
      obtain ⟨y0, y1, y2, htb⟩ := hI.out.tbB
      have hsb' := hI.out.sbB
      rw [hlen] at hsb' hd
      have e0 := hsb'.at_ (i := 0) rfl
      have e1 := hsb'.at_ (i := 1) rfl
      have e2 := hsb'.at_ (i := 2) rfl
      have t0 := htb.at_ (i := 0) rfl
      have t1 := htb.at_ (i := 1) rfl
      have t2 := htb.at_ (i := 2) rfl
      have u0 := htb.frozen 0
      have u1 := htb.frozen 1
      have u2 := htb.frozen 2
      have hd' := Lib.hid hd
      have htb' := Lib.hid htb
      have hbw := Lib.hid hI.out.below
      clear hd htb hsb' hI
      go_wp2_with fail
      refine store_ret (copied_set htb'.out _ _ _) rfl rfl rfl ⟨_, _, by rw [hlen], ?_, ?_⟩
      · refine ⟨?_, hid, hpr⟩
        rw [hlen]
        exact (hd'.out.keep (copied_keeps _ _ _ _ _)).imp fun b _ hb => hb.1
      · exact ((hbw.out.setCell (by have := hsb.out; show _ ≤ sb + 1; omega) _).setCell (by have := hsb.out; show _ ≤ sb + 1; omega) _).setCell (by have := hsb.out; show _ ≤ sb + 1; omega) _
end Go.Proofs.YtnonfdcbnkdmcaaGreatDoor
