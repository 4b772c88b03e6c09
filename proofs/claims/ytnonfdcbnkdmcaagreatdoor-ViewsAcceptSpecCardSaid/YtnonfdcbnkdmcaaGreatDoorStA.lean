/- store.open, Fetch store.Fetch slices.IndexFunc at []api.Entry with a digest; slices.Clip store.Put store.Delete -/
import Derived.Test.YtnonfdcbnkdmcaaGreatDoorAl
import Derived.Test.YtnonfdcbnkdmcaaGreatDoorChk
import Derived.Test.YtnonfdcbnkdmcaaGreatDoorFin
import Derived.Deep.RegionLawGrows
import Derived.Laws.Tables
namespace Go.Proofs.YtnonfdcbnkdmcaaGreatDoor
open Go.RowKit Go.Mem
open Go.Sto (Ent Lg St)

def OpenPost (K : Nat → Prop) (s : St) (q : Int) (w : World) (e : Ending) (w' : World) : Prop :=
 Below w.heap.size w w' ∧ ((q = 0 ∧ ∃ bb, e = .returned (.tuple #[.pointer (some ⟨bb, 0, none⟩), .int .i64 0]) ∧ Book K w' bb s) ∨ (q ≠ 0 ∧ e = .returned (.tuple #[.pointer none, .int .i64 q])))

set_option maxRecDepth 20000 in
set_option maxHeartbeats 1000000 in
theorem open_any (K : Nat → Prop) (a : Option Addr) (n c : Nat) (s : St) (f : Int) (w : World) (HT : Tabs w) (H : SV K w a n c s) :
 Calls Tryz.prog 68 #[.agg #[.int .i64 s.id, .int .i64 s.priv, .slice a n c], .int .i64 f] w (OpenPost K s (Sto.openE s f) w) := by
 have HT' := Lib.hid HT; have H' := Lib.hid H
 clear HT H
 obtain ⟨sb, hsb⟩ : ∃ sb, Hid (w.heap.size = sb) := ⟨_, rfl⟩
 have hB1 : Hid (Blk (w.alloc (.cells #[.int .i64 s.id, .int .i64 s.priv, .slice a n c] 24)) sb 24 (stC s a n c)) := by rw [← hsb.out]; exact Blk.new w _ (stC s a n c)
 have hb1 : Hid (Below w.heap.size w (w.alloc (.cells #[.int .i64 s.id, .int .i64 s.priv, .slice a n c] 24))) := (Below.refl _ w).alloc (Nat.le_refl _) _
 have hck := Lib.hid (fun W (hW : Below w.heap.size w W) => Check_any K a n c s W (HT'.out.below hW) (H'.out.below hW))
 have b0 := hB1.out.at_ (i := 0) rfl
 have b1 := hB1.out.at_ (i := 1) rfl
 have b2 := hB1.out.at_ (i := 2) rfl
 have hfo := Lib.hid (fun W => isFolder_any f W)
 by_cases hc : Sto.chkS s = 0
 · rw [hc] at hck
   cases hf : Sto.folderB f with
   | true =>
    have hq : Sto.openE s f = 0 := by simp [Sto.openE, hc, hf]
    rw [hq]
    rw [hf] at hfo
    clear hq hf hc
    go_enter Tryz.func68, Tryz.ntmps68
    go_wp2_with fail
    rw [hsb.out]
    generalize World.alloc w _ = W1 at *
    refine (hck.out _ hb1.out).mono ?_
    rintro e w2 ⟨rfl, hb2⟩
    go_wp2_with fail
    refine (hfo.out _).mono ?_
    rintro e w3 ⟨rfl, rfl⟩
    have hB2 := hB1.out.below hb2 hB1.out.lt
    have c0 := hB2.at_ (i := 0) rfl
    have c1 := hB2.at_ (i := 1) rfl
    have c2 := hB2.at_ (i := 2) rfl
    have hb2' := Lib.hid (hb1.out.trans (hb2.mono hb1.out.size))
    clear hB2 hb2 hB1 hb1 hck b0 b1 b2
    go_wp2_with fail
    go_ret2
    have hb4 := hb2'.out.alloc hb2'.out.size (.cells #[.int .i64 s.id, .int .i64 s.priv, .slice a n c] 151)
    exact ⟨hb4, .inl ⟨rfl, _, rfl, ⟨_, a, n, c, Blk.new _ 151 (stC s a n c), H'.out.below hb4⟩⟩⟩
   | false =>
    have hq : Sto.openE s f = 1 := by simp [Sto.openE, hc, hf]
    rw [hq]
    rw [hf] at hfo
    clear hq hf hc
    go_enter Tryz.func68, Tryz.ntmps68
    go_wp2_with fail
    rw [hsb.out]
    generalize World.alloc w _ = W1 at *
    refine (hck.out _ hb1.out).mono ?_
    rintro e w2 ⟨rfl, hb2⟩
    go_wp2_with fail
    refine (hfo.out _).mono ?_
    rintro e w3 ⟨rfl, rfl⟩
    go_wp2_with fail
    go_ret2
    exact ⟨hb1.out.trans (hb2.mono hb1.out.size), .inr ⟨by decide, rfl⟩⟩
 · have h300 : Sto.chkS s = 300 := by unfold Sto.chkS at hc ⊢; split at hc <;> simp_all
   have hq : Sto.openE s f = 300 := by simp [Sto.openE, hc]
   rw [hq]
   rw [h300] at hck
   clear hq hc h300
   go_enter Tryz.func68, Tryz.ntmps68
   go_wp2_with fail
   rw [hsb.out]
   generalize World.alloc w _ = W1 at *
   refine (hck.out _ hb1.out).mono ?_
   rintro e w2 ⟨rfl, hb2⟩
   go_wp2_with fail
   go_ret2
   exact ⟨hb1.out.trans (hb2.mono hb1.out.size), .inr ⟨by decide, rfl⟩⟩
end Go.Proofs.YtnonfdcbnkdmcaaGreatDoor
namespace Go.Proofs.YtnonfdcbnkdmcaaGreatDoor
open Go.RowKit Go.Mem
open Go.Sto (Ent Lg St)

end Go.Proofs.YtnonfdcbnkdmcaaGreatDoor
namespace Go.Proofs.YtnonfdcbnkdmcaaGreatDoor
open Go.RowKit Go.Mem
open Go.Sto (Ent Lg St)

end Go.Proofs.YtnonfdcbnkdmcaaGreatDoor
namespace Go.Proofs.YtnonfdcbnkdmcaaGreatDoor
open Go.RowKit Go.Mem
open Go.Sto (Ent Lg St)

theorem as_range {d : List Nat} (h : d.length = 32) : d = (List.range 32).map fun i => d.getD i 0 := by
 apply List.ext_getElem?
 intro i
 simp only [List.getElem?_map]
 by_cases hi : i < 32
 · rw [List.getElem?_eq_getElem (by omega), List.getElem?_range hi]
   simp [List.getD, List.getElem?_eq_getElem (show i < d.length by omega)]
 · rw [List.getElem?_eq_none (by omega), List.getElem?_eq_none (by simpa using hi)]
   rfl

theorem i64_0 : I64 0 := ⟨by decide, by decide⟩
theorem SV.zero (K : Nat → Prop) (w : World) : SV K w none 0 0 Sto.zeroS := ⟨LS.nil0 _ _, i64_0, i64_0⟩
section
variable {P : Program} {ops : Array Oper} {S : World → Prop} {o : Oper} {a : Act} {v : Value}
theorem hold_build (hw : Region.wanted o (yielded ops a.tmps) = true) (t : TypeId) (parts : Array (Nat × Operand)) (h : o.op = .build t parts) (ps : Array (Nat × Value)) (hp : (parts.map fun (i, x) => (i, a.eval x)) = ps) (hr : ∀ W, (Instr.build t ps).run P W = .ok v W) : YieldsIf P ops S o v a :=
 .inl ⟨hw, fun w _ => by unfold execOp; simp only [h, hp, Sem.run_bind, hr, Result.andThen_ok, Sem.run_pure]⟩
theorem wp_buildSlice_run {w w' : World} {K : Act → World → Prop} {Q : Exit → Act → World → Prop} (t : TypeId) (n : Nat) (parts : Array (Nat × Operand)) (h : o.op = .buildSlice t n parts) (ps : Array (Nat × Value)) (hp : (parts.map fun (i, x) => (i, a.eval x)) = ps) (hr : (Instr.buildSlice t n ps).run P w = .ok v w') (hK : K (a.put o.dst v) w') : o.wp P a w K Q := by
 unfold Oper.wp execOp
 simp only [h, hp, Sem.run_bind, hr, Result.andThen_ok, Sem.run_pure]
 exact hK
end

theorem new_cells (W : World) (t : TypeId) (r : List Value) : ∀ (j : Nat) u, r[j]? = some u → (W.alloc (.cells r.toArray t)).cell? ((⟨W.heap.size, 0, none⟩ : Addr).add j) = some u := fun j u hj => by
 rw [Addr.add_lit, Nat.zero_add]
 exact (Blk.new W t r).at_ hj
theorem PutS.right {w6 W : World} {db : Nat} {cs : List Value} (h : W.rangeAt db 0 cs ∧ Below w6.heap.size w6 W) : Below w6.heap.size w6 W := h.2
theorem PutS.drew {w6 W : World} {db : Nat} {cs : List Value} (h : W.rangeAt db 0 cs ∧ Below w6.heap.size w6 W) : W.drew.rangeAt db 0 cs ∧ Below w6.heap.size w6 W.drew := ⟨h.1, h.2.drew⟩
theorem PutS.next {w6 W W' : World} {db : Nat} {cs : List Value} (hd : db < w6.heap.size) (h : W.rangeAt db 0 cs ∧ Below w6.heap.size w6 W) (hb : Below W.heap.size W W') : W'.rangeAt db 0 cs ∧ Below w6.heap.size w6 W' :=
 ⟨fun j v hv => (hb.cell (p := ⟨db, _, none⟩) (Nat.lt_of_lt_of_le hd h.2.size)).trans (h.1 j v hv), h.2.trans (hb.mono h.2.size)⟩
theorem PutS.alloc {w6 W : World} {db : Nat} {cs : List Value} (hd : db < w6.heap.size) (h : W.rangeAt db 0 cs ∧ Below w6.heap.size w6 W) (o : Obj) : (W.alloc o).rangeAt db 0 cs ∧ Below w6.heap.size w6 (W.alloc o) := PutS.next hd h ((Below.refl _ _).alloc (Nat.le_refl _) _)
theorem PutS.grown {w6 W W' : World} {db : Nat} {cs : List Value} (hd : db < w6.heap.size) (h : W.rangeAt db 0 cs ∧ Below w6.heap.size w6 W) (hg : W.grownBy W' none) : W'.rangeAt db 0 cs ∧ Below w6.heap.size w6 W' := PutS.next hd h ((Below.refl _ W).grown hg (Nat.le_refl _) (fun r e => by cases e))

end Go.Proofs.YtnonfdcbnkdmcaaGreatDoor
namespace Go.Proofs.YtnonfdcbnkdmcaaGreatDoor
open Go.RowKit Go.Mem
open Go.Sto (Ent Lg St)

end Go.Proofs.YtnonfdcbnkdmcaaGreatDoor

