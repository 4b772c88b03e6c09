/- store.open, Fetch store.Fetch slices.IndexFunc at []api.Entry with a digest; slices.Clip store.Put store.Delete -/
import Derived.Test.YtiionehcmoginaaDoorChk
import Derived.Test.YtiionehcmoginaaDoorFin
import Derived.Deep.RegionLawGrows
import Derived.Laws.Tables
namespace Go.Proofs.YtiionehcmoginaaDoor
open Go.RowKit Go.Mem
open Go.Sto (Ent Lg St)

def OpenPost (K : Nat → Prop) (s : St) (q : Int) (w : World) (e : Ending) (w' : World) : Prop :=
  Below w.heap.size w w' ∧ ((q = 0 ∧ ∃ bb, e = .returned (.tuple #[.pointer (some ⟨bb, 0, none⟩), .int .i64 0]) ∧ Book K w' bb s) ∨ (q ≠ 0 ∧ e = .returned (.tuple #[.pointer none, .int .i64 q])))

set_option maxRecDepth 20000 in
set_option maxHeartbeats 1000000 in
theorem open_any (K : Nat → Prop) (a : Option Addr) (n c : Nat) (s : St) (f : Int) (w : World) (HT : Tabs w) (H : SV K w a n c s) :
    Calls Tryd.prog 32 #[.agg #[.int .i64 s.id, .int .i64 s.priv, .slice a n c], .int .i64 f] w (OpenPost K s (Sto.openE s f) w) := by
  have HT' := Lib.hid HT; have H' := Lib.hid H
  clear HT H
  obtain ⟨sb, hsb⟩ : ∃ sb, Hid (w.heap.size = sb) := ⟨_, rfl⟩
  have hB1 : Hid (Blk (w.alloc (.cells #[.int .i64 s.id, .int .i64 s.priv, .slice a n c] 27)) sb 27 (stC s a n c)) := by rw [← hsb.out]; exact Blk.new w _ (stC s a n c)
  have hb1 : Hid (Below w.heap.size w (w.alloc (.cells #[.int .i64 s.id, .int .i64 s.priv, .slice a n c] 27))) := (Below.refl _ w).alloc (Nat.le_refl _) _
  have hck := Lib.hid (fun W (hW : Below w.heap.size w W) => Check_any K a n c s W (HT'.out.below hW) (H'.out.below hW))
  have b0 := hB1.out.at_ (i := 0) rfl
  have b1 := hB1.out.at_ (i := 1) rfl
  have b2 := hB1.out.at_ (i := 2) rfl
  have hfo := Lib.hid (fun W => isFolder_any f W)
  by_cases hc : Sto.chkS s = 0
  · rw [hc] at hck
    cases hf : Sto.folderB f with
    | true =>
      have hq : Sto.openE s f = 0 := by simp [Sto.openE, hc, hf]
      rw [hq]
      rw [hf] at hfo
      clear hq hf hc
      go_enter Tryd.func32, Tryd.ntmps32
      go_wp2_with fail
      rw [hsb.out]
      generalize World.alloc w _ = W1 at *
      refine (hck.out _ hb1.out).mono ?_
      rintro e w2 ⟨rfl, hb2⟩
      go_wp2_with fail
      refine (hfo.out _).mono ?_
      rintro e w3 ⟨rfl, rfl⟩
      have hB2 := hB1.out.below hb2 hB1.out.lt
      have c0 := hB2.at_ (i := 0) rfl
      have c1 := hB2.at_ (i := 1) rfl
      have c2 := hB2.at_ (i := 2) rfl
      have hb2' := Lib.hid (hb1.out.trans (hb2.mono hb1.out.size))
      clear hB2 hb2 hB1 hb1 hck b0 b1 b2
      go_wp2_with fail
      go_ret2
      have hb4 := hb2'.out.alloc hb2'.out.size (.cells #[.int .i64 s.id, .int .i64 s.priv, .slice a n c] 108)
      exact ⟨hb4, .inl ⟨rfl, _, rfl, ⟨_, a, n, c, Blk.new _ 108 (stC s a n c), H'.out.below hb4⟩⟩⟩
    | false =>
      have hq : Sto.openE s f = 1 := by simp [Sto.openE, hc, hf]
      rw [hq]
      rw [hf] at hfo
      clear hq hf hc
      go_enter Tryd.func32, Tryd.ntmps32
      go_wp2_with fail
      rw [hsb.out]
      generalize World.alloc w _ = W1 at *
      refine (hck.out _ hb1.out).mono ?_
      rintro e w2 ⟨rfl, hb2⟩
      go_wp2_with fail
      refine (hfo.out _).mono ?_
      rintro e w3 ⟨rfl, rfl⟩
      go_wp2_with fail
      go_ret2
      exact ⟨hb1.out.trans (hb2.mono hb1.out.size), .inr ⟨by decide, rfl⟩⟩
  · have h300 : Sto.chkS s = 300 := by unfold Sto.chkS at hc ⊢; split at hc <;> simp_all
    have hq : Sto.openE s f = 300 := by simp [Sto.openE, hc]
    rw [hq]
    rw [h300] at hck
    clear hq hc h300
    go_enter Tryd.func32, Tryd.ntmps32
    go_wp2_with fail
    rw [hsb.out]
    generalize World.alloc w _ = W1 at *
    refine (hck.out _ hb1.out).mono ?_
    rintro e w2 ⟨rfl, hb2⟩
    go_wp2_with fail
    go_ret2
    exact ⟨hb1.out.trans (hb2.mono hb1.out.size), .inr ⟨by decide, rfl⟩⟩
end Go.Proofs.YtiionehcmoginaaDoor
namespace Go.Proofs.YtiionehcmoginaaDoor
open Go.RowKit Go.Mem
open Go.Sto (Ent Lg St)

def FetPost (l : List Ent) (q : Int) (w : World) (e : Ending) (w' : World) : Prop :=
  ∃ a c, e = .returned (.tuple #[.slice a l.length c, .int .i64 q]) ∧ ES (fun b => w.heap.size ≤ b) w' a l.length c l ∧ Below w.heap.size w w'
theorem FetPost.err {q : Int} {w w' : World} (hb : Below w.heap.size w w') : FetPost [] q w (.returned (.tuple #[.slice none 0 0, .int .i64 q])) w' := ⟨none, 0, rfl, ES.nil0 _ _, hb⟩

end Go.Proofs.YtiionehcmoginaaDoor
namespace Go.Proofs.YtiionehcmoginaaDoor
open Go.RowKit Go.Mem
open Go.Sto (Ent Lg St)

def idxI (d : List Nat) (l : List Ent) : Int := if Sto.idxE d l < l.length then Sto.idxE d l else -1
theorem idxI_at {d : List Nat} {l : List Ent} {i : Nat} {e : Ent} (h : l[i]? = some e) (hd : e.dig = d) (hn : ∀ (j : Nat) x, j < i → l[j]? = some x → x.dig ≠ d) : idxI d l = i := by
  unfold idxI
  rw [Sto.idxE_at h hd hn, if_pos (List.getElem?_eq_some_iff.1 h).1]
theorem idxI_none {d : List Nat} {l : List Ent} (hn : ∀ (j : Nat) x, l[j]? = some x → x.dig ≠ d) : idxI d l = -1 := by
  unfold idxI
  rw [if_neg]
  intro h
  obtain ⟨e, he, hd⟩ := Sto.idxE_lt h
  exact hn _ e he hd

end Go.Proofs.YtiionehcmoginaaDoor
namespace Go.Proofs.YtiionehcmoginaaDoor
open Go.RowKit Go.Mem
open Go.Sto (Ent Lg St)

theorem as_range {d : List Nat} (h : d.length = 32) : d = (List.range 32).map fun i => d.getD i 0 := by
  apply List.ext_getElem?
  intro i
  simp only [List.getElem?_map]
  by_cases hi : i < 32
  · rw [List.getElem?_eq_getElem (by omega), List.getElem?_range hi]
    simp [List.getD, List.getElem?_eq_getElem (show i < d.length by omega)]
  · rw [List.getElem?_eq_none (by omega), List.getElem?_eq_none (by simpa using hi)]
    rfl

theorem build_range (f : Nat → Nat) (k : Int) (a : Option Addr) (n c : Nat) (W : World) :
    (Instr.build 73 #[(0, .int .i64 k), (1, .agg (bv ((List.range 32).map f)).toArray), (2, .slice a n c)]).run Tryd.prog W = .ok (.agg (entC ⟨k, (List.range 32).map f, [], false⟩ a n c).toArray) W := run_build W _ _ _ (by kernel_rfl)
theorem row_range (f : Nat → Nat) (k : Int) (a : Option Addr) (n c : Nat) (g : Bool) (W : World) :
    (Instr.buildSlice 31 1 #[(0, .agg (entC ⟨k, (List.range 32).map f, [], g⟩ a n c).toArray)]).run Tryd.prog W = .ok (.slice (some ⟨W.heap.size, 0, none⟩) 1 1) (W.alloc (.cells (entC ⟨k, (List.range 32).map f, [], g⟩ a n c).toArray 73)) := by kernel_rfl
theorem build_ent {d : List Nat} (h : d.length = 32) (k : Int) (data : List Nat) (a : Option Addr) (n c : Nat) (W : World) :
    (Instr.build 73 #[(0, .int .i64 k), (1, .agg (bv d).toArray), (2, .slice a n c)]).run Tryd.prog W = .ok (.agg (entC ⟨k, d, data, false⟩ a n c).toArray) W := by
  rw [as_range h]
  exact build_range _ k a n c W
theorem row_ent {e : Ent} (h : e.dig.length = 32) (a : Option Addr) (n c : Nat) (W : World) :
    (Instr.buildSlice 31 1 #[(0, .agg (entC e a n c).toArray)]).run Tryd.prog W = .ok (.slice (some ⟨W.heap.size, 0, none⟩) 1 1) (W.alloc (.cells (entC e a n c).toArray 73)) := by
  obtain ⟨k, d, data, g⟩ := e
  simp only [] at h
  have := row_range (fun i => d.getD i 0) k a n c g W
  rw [← as_range h] at this
  exact this

theorem results_cell_tmp2 {P : Program} {fn : Func} {p u v : Tmp} {ty : TypeId} (h : fn.results = #[.cell p ty, .tmp u, .tmp v]) (tmps : Array Value) (w : World) :
    (results fn tmps).run P w =
      ((asAddr (tmps.getD p undef)).run P w).andThen fun a w₁ => ((loadVar ty a).run P w₁).andThen fun x w₂ => .ok (.tuple #[x, tmps.getD u undef, tmps.getD v undef]) w₂ := by
  simp only [results, h]
  simp [Sem.run_bind, Result.andThen]

def PuttPost (s : St) (no q : Int) (w : World) (e : Ending) (w' : World) : Prop :=
  ∃ a c, e = .returned (.tuple #[.agg #[.int .i64 s.id, .int .i64 s.priv, .slice a s.logs.length c], .int .i64 no, .int .i64 q]) ∧ SV (fun b => w.heap.size ≤ b) w' a s.logs.length c s ∧ Below w.heap.size w w'

theorem i64_0 : I64 0 := ⟨by decide, by decide⟩
theorem SV.zero (K : Nat → Prop) (w : World) : SV K w none 0 0 Sto.zeroS := ⟨LS.nil0 _ _, i64_0, i64_0⟩
theorem PuttPost.err {no q : Int} {w w' : World} (hb : Below w.heap.size w w') : PuttPost Sto.zeroS no q w (.returned (.tuple #[.agg #[.int .i64 0, .int .i64 0, .slice none 0 0], .int .i64 no, .int .i64 q])) w' := ⟨none, 0, rfl, SV.zero _ _, hb⟩

/-- what a store handed to Put's result leaves. -/
theorem put_fin {w wa w5 : World} {tb : Nat} {s : St} {a : Option Addr} {c : Nat} (no q : Int) (hS : SV (fun b => wa.heap.size ≤ b) w5 a s.logs.length c s) (hb : Below w.heap.size w w5) (htb : w.heap.size ≤ tb) (hta : tb < wa.heap.size) :
    PuttPost s no q w (.returned (.tuple #[.agg #[.int .i64 s.id, .int .i64 s.priv, .slice a s.logs.length c], .int .i64 no, .int .i64 q])) (((w5.setCell ⟨tb, 0, none⟩ (.int .i64 s.id)).setCell ⟨tb, 1, none⟩ (.int .i64 s.priv)).setCell ⟨tb, 2, none⟩ (.slice a s.logs.length c)) :=
  ⟨a, c, rfl, ((hS.imp (K' := fun b => w.heap.size ≤ b ∧ b ≠ tb) fun b _ h => ⟨by omega, by omega⟩).keep (copied_keeps _ _ _ _ _)).imp fun b _ h => h.1, ((hb.setCell htb _).setCell htb _).setCell htb _⟩

/-- the entries behind append. -/
theorem put_es {K : Nat → Prop} {w w' : World} {B n : Nat} {l : List Ent} {rows : List (List Value)} {e : Ent} {a : Option Addr} {m c : Nat} {v : Value}
    (hO : RowsOf 35 (EV K w) l rows) (ho : OkE e) (hd : BW w a m c e.data) (hb : Below w.heap.size w w') (hn : n + 1 ≤ 100000) (hl : l.length = n)
    (hown : w'.ownsRow B 73 35 v (n + 1) (rows.flatten ++ entC e a m c)) :
    ∃ a2 c2, v = .slice a2 (n + 1) c2 ∧ ES (fun _ => True) w' a2 (n + 1) c2 (l ++ [e]) := by
  obtain ⟨a2, c2, rfl, hR, hsep⟩ := Sl.of_owns hown
  have hO2 : RowsOf 35 (EV (fun _ => True) w') l rows := hO.imp fun e r h => (h.imp fun _ _ _ => trivial).keep (.below hb)
  have hO3 := hO2.append (RowsOf.one (e := e) (r := entC e a m c) ⟨ho, a, m, c, rfl, (hd.below hb).bk⟩ (entC_length ho.dig _ _ _))
  refine ⟨a2, c2, rfl, ⟨by simp [hl], fun _ _ _ => trivial, _, ?_, hO3⟩, hn⟩
  rw [List.flatten_append, List.flatten_singleton]
  exact hR

section
variable {P : Program} {ops : Array Oper} {S : World → Prop} {o : Oper} {a : Act} {v : Value}
theorem hold_move (hw : Region.wanted o (yielded ops a.tmps) = true) (x : Operand) (h : o.op = .move x) : YieldsIf P ops S o (a.eval x) a := .inl ⟨hw, fun w _ => by unfold execOp; simp only [h]; simp⟩
theorem hold_build (hw : Region.wanted o (yielded ops a.tmps) = true) (t : TypeId) (parts : Array (Nat × Operand)) (h : o.op = .build t parts) (ps : Array (Nat × Value)) (hp : (parts.map fun (i, x) => (i, a.eval x)) = ps) (hr : ∀ W, (Instr.build t ps).run P W = .ok v W) : YieldsIf P ops S o v a :=
  .inl ⟨hw, fun w _ => by unfold execOp; simp only [h, hp, Sem.run_bind, hr, Result.andThen_ok, Sem.run_pure]⟩
theorem wp_buildSlice_run {w w' : World} {K : Act → World → Prop} {Q : Exit → Act → World → Prop} (t : TypeId) (n : Nat) (parts : Array (Nat × Operand)) (h : o.op = .buildSlice t n parts) (ps : Array (Nat × Value)) (hp : (parts.map fun (i, x) => (i, a.eval x)) = ps) (hr : (Instr.buildSlice t n ps).run P w = .ok v w') (hK : K (a.put o.dst v) w') : o.wp P a w K Q := by
  unfold Oper.wp execOp
  simp only [h, hp, Sem.run_bind, hr, Result.andThen_ok, Sem.run_pure]
  exact hK
end

theorem reads_holds {w W : World} {a : Option Addr} {n c sz : Nat} {xs : List Value} (h : Sl.Reads w a n c sz xs) (hb : Below w.heap.size w W) : ∀ b, a = some b → ∀ j u, xs[j]? = some u → W.cell? (b.add j) = some u := fun b e => by
  subst e
  exact (h.below hb (Nat.le_refl _)).news
theorem new_cells (W : World) (t : TypeId) (r : List Value) : ∀ (j : Nat) u, r[j]? = some u → (W.alloc (.cells r.toArray t)).cell? ((⟨W.heap.size, 0, none⟩ : Addr).add j) = some u := fun j u hj => by
  rw [Addr.add_lit, Nat.zero_add]
  exact (Blk.new W t r).at_ hj
/-- what the drawn append keeps. -/
theorem PutS.right {w6 W : World} {db : Nat} {cs : List Value} (h : W.rangeAt db 0 cs ∧ Below w6.heap.size w6 W) : Below w6.heap.size w6 W := h.2
theorem PutS.drew {w6 W : World} {db : Nat} {cs : List Value} (h : W.rangeAt db 0 cs ∧ Below w6.heap.size w6 W) : W.drew.rangeAt db 0 cs ∧ Below w6.heap.size w6 W.drew := ⟨h.1, h.2.drew⟩
theorem PutS.next {w6 W W' : World} {db : Nat} {cs : List Value} (hd : db < w6.heap.size) (h : W.rangeAt db 0 cs ∧ Below w6.heap.size w6 W) (hb : Below W.heap.size W W') : W'.rangeAt db 0 cs ∧ Below w6.heap.size w6 W' :=
  ⟨fun j v hv => (hb.cell (p := ⟨db, _, none⟩) (Nat.lt_of_lt_of_le hd h.2.size)).trans (h.1 j v hv), h.2.trans (hb.mono h.2.size)⟩
theorem PutS.alloc {w6 W : World} {db : Nat} {cs : List Value} (hd : db < w6.heap.size) (h : W.rangeAt db 0 cs ∧ Below w6.heap.size w6 W) (o : Obj) : (W.alloc o).rangeAt db 0 cs ∧ Below w6.heap.size w6 (W.alloc o) := PutS.next hd h ((Below.refl _ _).alloc (Nat.le_refl _) _)
theorem PutS.grown {w6 W W' : World} {db : Nat} {cs : List Value} (hd : db < w6.heap.size) (h : W.rangeAt db 0 cs ∧ Below w6.heap.size w6 W) (hg : W.grownBy W' none) : W'.rangeAt db 0 cs ∧ Below w6.heap.size w6 W' := PutS.next hd h ((Below.refl _ W).grown hg (Nat.le_refl _) (fun r e => by cases e))

end Go.Proofs.YtiionehcmoginaaDoor
namespace Go.Proofs.YtiionehcmoginaaDoor
open Go.RowKit Go.Mem
open Go.Sto (Ent Lg St)

theorem delL_set {l : List Ent} {i : Nat} {e : Ent} (h : l[i]? = some e) : Sto.delL l i = l.set i (Sto.delE e) := by
  apply List.ext_getElem?
  intro j
  rw [Sto.delL_get, List.getElem?_set]
  split
  · rename_i hij
    subst hij
    rw [h, if_pos (List.getElem?_eq_some_iff.1 h).1]
    rfl
  · cases l[j]? <;> rfl
theorem entC_set2 {e : Ent} (h : e.dig.length = 32) (a : Option Addr) (n c : Nat) : ((entC e a n c).set 33 (.slice none 0 0)).set 34 (.bool true) = entC (Sto.delE e) none 0 0 := by
  rw [entC_set h, entC, List.set_cons_succ, List.set_append_right _ _ (by rw [bv_length, h]; omega), bv_length, h]
  rfl

def DelPost (s : St) (q : Int) (w : World) (e : Ending) (w' : World) : Prop :=
  ∃ a c, e = .returned (.tuple #[.agg #[.int .i64 s.id, .int .i64 s.priv, .slice a s.logs.length c], .int .i64 q]) ∧ SV (fun b => w.heap.size ≤ b) w' a s.logs.length c s ∧ Below w.heap.size w w'
theorem DelPost.err {q : Int} {w w' : World} (hb : Below w.heap.size w w') : DelPost Sto.zeroS q w (.returned (.tuple #[.agg #[.int .i64 0, .int .i64 0, .slice none 0 0], .int .i64 q])) w' := ⟨none, 0, rfl, SV.zero _ _, hb⟩
theorem del_fin {w wa w5 : World} {tb : Nat} {s : St} {a : Option Addr} {c : Nat} (q : Int) (hS : SV (fun b => wa.heap.size ≤ b) w5 a s.logs.length c s) (hb : Below w.heap.size w w5) (htb : w.heap.size ≤ tb) (hta : tb < wa.heap.size) :
    DelPost s q w (.returned (.tuple #[.agg #[.int .i64 s.id, .int .i64 s.priv, .slice a s.logs.length c], .int .i64 q])) (((w5.setCell ⟨tb, 0, none⟩ (.int .i64 s.id)).setCell ⟨tb, 1, none⟩ (.int .i64 s.priv)).setCell ⟨tb, 2, none⟩ (.slice a s.logs.length c)) := by
  obtain ⟨a2, c2, h1, h2, h3⟩ := put_fin 0 q hS hb htb hta
  cases h1
  exact ⟨_, _, rfl, h2, h3⟩

/-- y.Data, y.Gone = nil, true in the clone's row. -/
theorem del_es {w w3 : World} {g p c' : Nat} {t : TypeId} {l : List Ent} {rows : List (List Value)} {rest : List Value} {e : Ent}
    (hO : RowsOf 35 (EV (fun _ => True) w) l rows) (hB : Blk w3 g t (rows.flatten ++ rest)) (hg : w.heap.size ≤ g) (hb : Below w.heap.size w w3) (hx : l[p]? = some e) (hn : l.length ≤ 100000) (hc : l.length ≤ c') (hcm : c' ≤ maxLen) :
    ES (fun _ => True) ((w3.setCell ⟨g, p * 35 + 33, none⟩ (.slice none 0 0)).setCell ⟨g, p * 35 + 34, none⟩ (.bool true)) (some ⟨g, 0, none⟩) l.length c' (Sto.delL l p) := by
  rw [delL_set hx]
  have hk : p < rows.length := by rw [hO.len]; exact (List.getElem?_eq_some_iff.1 hx).1
  have hrk : rows[p]? = some rows[p] := List.getElem?_eq_getElem hk
  obtain ⟨ho, a, m, c, er, _⟩ := hO.each p e rows[p] hx hrk
  have hs0 := hO.size _ (List.getElem_mem hk)
  have hkeep : Keeps (fun b => b < w.heap.size) w ((w3.setCell ⟨g, p * 35 + 33, none⟩ (.slice none 0 0)).setCell ⟨g, p * 35 + 34, none⟩ (.bool true)) :=
    ⟨by simpa [World.setCell] using hb.size, fun b hb1 _ => ((Below.heap_setCell _ ⟨g, p * 35 + 34, none⟩ _ b (show b ≠ g by omega)).trans (Below.heap_setCell w3 ⟨g, p * 35 + 33, none⟩ _ b (show b ≠ g by omega))).trans (hb.block b hb1)⟩
  have hO2 : RowsOf 35 (EV (fun _ => True) ((w3.setCell ⟨g, p * 35 + 33, none⟩ (.slice none 0 0)).setCell ⟨g, p * 35 + 34, none⟩ (.bool true))) l rows := hO.imp fun e r h => ((h.imp (K' := fun b => b < w.heap.size) fun b hb _ => hb).keep hkeep).imp fun _ _ _ => trivial
  have hO3 := hO2.set p (e := Sto.delE e) (r := (rows[p].set 33 (.slice none 0 0)).set 34 (.bool true)) ⟨⟨ho.dig, ho.lt, ho.lo, ho.hi, Nat.zero_le _⟩, none, 0, 0, by rw [er, entC_set2 ho.dig], BK.of ⟨rfl, Nat.le_refl _, by omega, fun _ => ⟨rfl, rfl⟩, fun ad e => (by cases e), by simp [Sto.delE]⟩ (fun _ _ => trivial)⟩ (by rw [List.length_set, List.length_set]; exact hs0)
  have hfl := flat_len hO.size
  have hB2 := (hB.set (p * 35 + 33) (.slice none 0 0)).set (p * 35 + 34) (.bool true)
  rw [List.set_append_left _ _ (by omega), List.set_append_left _ _ (by rw [List.length_set]; omega)] at hB2
  have e1 : (rows.set p (rows[p].set 33 (.slice none 0 0))).flatten = rows.flatten.set (p * 35 + 33) (.slice none 0 0) := flat_set _ hO.size hrk (by omega)
  have hsz : ∀ r ∈ rows.set p (rows[p].set 33 (.slice none 0 0)), r.length = 35 := fun r hr => by
    rcases List.mem_or_eq_of_mem_set hr with hr | rfl
    · exact hO.size r hr
    · rw [List.length_set]; exact hs0
  have e2 := flat_set (rows := rows.set p (rows[p].set 33 (.slice none 0 0))) (i := p) (j := 34) (r := rows[p].set 33 (.slice none 0 0)) (.bool true) hsz (List.getElem?_set_self hk) (by omega)
  rw [List.set_set, e1] at e2
  refine ⟨⟨by simp, fun _ _ _ => trivial, _, ⟨by rw [hO3.flat, List.length_set], hc, hcm, fun e => (by cases e), fun _ => ⟨g, 0, rfl, hB2.lt, fun j u hj => hB2.at_ ?_⟩⟩, hO3⟩, hn⟩
  rw [e2] at hj
  rw [Nat.zero_add, List.getElem?_append_left (List.getElem?_eq_some_iff.1 hj).1]
  exact hj

end Go.Proofs.YtiionehcmoginaaDoor
