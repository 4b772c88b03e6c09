/- steps of drawn regions, short -/
import Derived.OrdersHeld
import Derived.Deep.RegionHeld3
import Derived.BigQuiet
import Derived.Deep.DeepCutAuto
import Derived.KernelRfl
namespace Go
section
variable {P : Program} {ops : Array Oper} {Q : Exit → Act → World → Prop} {md : Region.Mode} {S : World → Prop}
theorem tk0 {i : Nat} {oi : Oper} {v : Value} {fuel : Nat} {listed l' : Array Bool} {a a' : Act} {w : World} (hi : ops[i]? = some oi)
    (hy : YieldsIf P ops S oi v a) (hS : S w)
    (ha : a.put oi.dst v = a') (hl : listed.setIfInBounds i true = l') (h : wpAnyH P md ops Q S fuel l' a' w)
    (hs : Region.noSelect ops = true) (hf : Region.free md ops listed i = true) (hr : (Region.ready md ops listed).contains i = true)
    (hQ : ∀ c a w, Q (.panic c) (a.put oi.dst v) w → Q (.panic c) a w) : wpAnyH P md ops Q S (fuel + 1) listed a w := by
  subst ha; subst hl; exact wpAnyH_take hi hs hf hr hQ hy hS h
theorem pS (a : Act) (d : Tmp) (v : Value) : a.put (some d) v = { a with tmps := a.tmps.setIfInBounds d v } := rfl
theorem pN (a : Act) (v : Value) : a.put none v = a := rfl
theorem sA {α : Type} (l : List α) (i : Nat) (v : α) : l.toArray.setIfInBounds i v = (l.set i v).toArray := List.setIfInBounds_toArray l i v
theorem s0 {α : Type} (x : α) (l : List α) (v : α) : (x :: l).set 0 v = v :: l := rfl
theorem s1 {α : Type} (x : α) (l : List α) (i : Nat) (v : α) : (x :: l).set (i + 1) v = x :: l.set i v := rfl
theorem tk {i : Nat} {oi : Oper} {v : Value} {fuel : Nat} {listed l' : Array Bool} {a a' : Act} {w : World} (hi : ops[i]? = some oi)
    (hy : YieldsIf P ops S oi v a) (hS : S w) (h : wpAnyH P md ops Q S fuel l' a' w)
    (ha : a.put oi.dst v = a' := by (try simp only [Act.put, sA, s0, s1]); rfl) (hl : listed.setIfInBounds i true = l' := by (try simp only [sA, s0, s1]); rfl)
    (hs : Region.noSelect ops = true := by kernel_rfl) (hf : Region.free md ops listed i = true := by kernel_rfl) (hr : (Region.ready md ops listed).contains i = true := by kernel_rfl)
    (hQ : ∀ c a w, Q (.panic c) (a.put oi.dst v) w → Q (.panic c) a w := by exact fun _ _ _ h => h) : wpAnyH P md ops Q S (fuel + 1) listed a w := tk0 hi hy hS ha hl h hs hf hr hQ
theorem tkq {i : Nat} {oi : Oper} {v : Value} {fuel : Nat} {listed l' : Array Bool} {a a' : Act} {w : World} (hi : ops[i]? = some oi) (hS : S w)
    (h : wpAnyH P md ops Q S fuel l' a' w)
    (hy : YieldsIf P ops S oi v a := by refine Or.inl ⟨by rfl, ?_⟩; intro wz hSw; go_simp; all_goals (with_reducible rfl))
    (ha : a.put oi.dst v = a' := by (try simp only [Act.put, sA, s0, s1]); rfl) (hl : listed.setIfInBounds i true = l' := by (try simp only [sA, s0, s1]); rfl)
    (hs : Region.noSelect ops = true := by kernel_rfl) (hf : Region.free md ops listed i = true := by kernel_rfl) (hr : (Region.ready md ops listed).contains i = true := by kernel_rfl)
    (hQ : ∀ c a w, Q (.panic c) (a.put oi.dst v) w → Q (.panic c) a w := by exact fun _ _ _ h => h) : wpAnyH P md ops Q S (fuel + 1) listed a w := tk0 hi hy hS ha hl h hs hf hr hQ
theorem rc {fuel : Nat} {listed : Array Bool} {a : Act} {w : World} {i : Nat} {o : Oper} {rs : List Nat} (ho : ops[i]? = some o)
    (h : ∀ K' : Act → World → Prop, Shut (∀ a w, S w → (S w → wpAnyH P md ops Q S fuel (listed.setIfInBounds i true) a w) → K' a w) → Oper.wp P o a w K' Q)
    (hs : AllReadyH P md ops Q S fuel listed a w rs) (hw : Region.wanted o (yielded ops a.tmps) = true := by rfl) : AllReadyH P md ops Q S fuel listed a w (i :: rs) :=
  AllReadyH.cons ho (fun K hK => by rw [if_pos hw]; exact h K hK) hs
theorem rn {fuel : Nat} {listed : Array Bool} {a : Act} {w : World} : AllReadyH P md ops Q S fuel listed a w [] := AllReadyH.nil
theorem rd {rs : List Nat} {fuel : Nat} {listed : Array Bool} {a : Act} {w : World} (h : AllReadyH P md ops Q S fuel listed a w rs) (hne : rs ≠ [] := by simp)
    (hr : Region.ready md ops listed = rs := by kernel_rfl) : wpAnyH P md ops Q S (fuel + 1) listed a w := wpAnyH_ready hr hne h
end
end Go
namespace Go
section
variable {P : Program} {ops : Array Oper} {Q : Exit → Act → World → Prop} {md : Region.Mode} {S : World → Prop} {d : Option Tmp} {op : Op} {ty : TypeId} {p : String} {af : Array Edge} {g : Option (Nat × Bool)} {v : Value} {fuel : Nat} {listed l' : Array Bool} {a a' : Act} {w : World}
theorem tG (i : Nat) (hi : ops[i]? = some ⟨d, op, ty, p, af, g⟩) (hy : YieldsIf P ops S ⟨d, op, ty, p, af, g⟩ v a) (hS : S w)
    (h : wpAnyH P md ops Q S fuel l' a' w)
    (ha : a.put d v = a' := by (try simp only [Act.put, sA, s0, s1]); rfl) (hl : listed.setIfInBounds i true = l' := by (try simp only [sA, s0, s1]); rfl)
    (hs : Region.noSelect ops = true := by kernel_rfl) (hf : Region.free md ops listed i = true := by kernel_rfl) (hr : (Region.ready md ops listed).contains i = true := by kernel_rfl)
    (hQ : ∀ c a w, Q (.panic c) (a.put d v) w → Q (.panic c) a w := by exact fun _ _ _ h => h) : wpAnyH P md ops Q S (fuel + 1) listed a w := tk0 hi hy hS ha hl h hs hf hr hQ
theorem tQ (i : Nat) (hi : ops[i]? = some ⟨d, op, ty, p, af, g⟩) (hS : S w)
    (h : wpAnyH P md ops Q S fuel l' a' w)
    (hy : YieldsIf P ops S ⟨d, op, ty, p, af, g⟩ v a := by refine Or.inl ⟨by rfl, ?_⟩; intro wz hSw; go_simp; all_goals (with_reducible rfl))
    (ha : a.put d v = a' := by (try simp only [Act.put, sA, s0, s1]); rfl) (hl : listed.setIfInBounds i true = l' := by (try simp only [sA, s0, s1]); rfl)
    (hs : Region.noSelect ops = true := by kernel_rfl) (hf : Region.free md ops listed i = true := by kernel_rfl) (hr : (Region.ready md ops listed).contains i = true := by kernel_rfl)
    (hQ : ∀ c a w, Q (.panic c) (a.put d v) w → Q (.panic c) a w := by exact fun _ _ _ h => h) : wpAnyH P md ops Q S (fuel + 1) listed a w := tk0 hi hy hS ha hl h hs hf hr hQ
theorem tX (i : Nat) (hi : ops[i]? = some ⟨d, op, ty, p, af, g⟩) {F : World → Prop} (hF : ∀ wz, S wz → F wz) (hS : S w)
    (h : wpAnyH P md ops Q S fuel l' a' w)
    (hy : YieldsIf P ops (fun wz => F wz) ⟨d, op, ty, p, af, g⟩ v a := by refine Or.inl ⟨by rfl, ?_⟩; intro wz qF; (try obtain ⟨qF1, qF2⟩ := qF); (try obtain ⟨qF3, qF4⟩ := qF2); go_simp; all_goals (with_reducible rfl))
    (ha : a.put d v = a' := by (try simp only [Act.put, sA, s0, s1]); rfl) (hl : listed.setIfInBounds i true = l' := by (try simp only [sA, s0, s1]); rfl)
    (hs : Region.noSelect ops = true := by kernel_rfl) (hf : Region.free md ops listed i = true := by kernel_rfl) (hr : (Region.ready md ops listed).contains i = true := by kernel_rfl)
    (hQ : ∀ c a w, Q (.panic c) (a.put d v) w → Q (.panic c) a w := by exact fun _ _ _ h => h) : wpAnyH P md ops Q S (fuel + 1) listed a w :=
  tk0 hi (hy.elim (fun h => Or.inl ⟨h.1, fun w hs => h.2 w (hF w hs)⟩) Or.inr) hS ha hl h hs hf hr hQ
theorem tS (i : Nat) (hi : ops[i]? = some ⟨d, op, ty, p, af, g⟩) (hS : S w)
    (h : wpAnyH P md ops Q S fuel l' a' w)
    (hy : YieldsIf P ops S ⟨d, op, ty, p, af, g⟩ undef a := by exact Or.inr ⟨by rfl, rfl⟩)
    (ha : a.put d undef = a' := by (try simp only [Act.put, sA, s0, s1]); rfl) (hl : listed.setIfInBounds i true = l' := by (try simp only [sA, s0, s1]); rfl)
    (hs : Region.noSelect ops = true := by kernel_rfl) (hf : Region.free md ops listed i = true := by kernel_rfl) (hr : (Region.ready md ops listed).contains i = true := by kernel_rfl)
    (hQ : ∀ c a w, Q (.panic c) (a.put d undef) w → Q (.panic c) a w := by exact fun _ _ _ h => h) : wpAnyH P md ops Q S (fuel + 1) listed a w := tk0 hi hy hS ha hl h hs hf hr hQ
theorem tR {i : Nat} {rs : List Nat} (ho : ops[i]? = some ⟨d, op, ty, p, af, g⟩)
    (h : ∀ K' : Act → World → Prop, Shut (∀ a w, S w → (S w → wpAnyH P md ops Q S fuel (listed.setIfInBounds i true) a w) → K' a w) → Oper.wp P ⟨d, op, ty, p, af, g⟩ a w K' Q)
    (hs : AllReadyH P md ops Q S fuel listed a w rs) (hw : Region.wanted ⟨d, op, ty, p, af, g⟩ (yielded ops a.tmps) = true := by rfl) : AllReadyH P md ops Q S fuel listed a w (i :: rs) :=
  AllReadyH.cons ho (fun K hK => by rw [if_pos hw]; exact h K hK) hs
theorem tO (i : Nat) (ho : ops[i]? = some ⟨d, op, ty, p, af, g⟩)
    (h : ∀ K' : Act → World → Prop, Shut (∀ a w, S w → (S w → wpAnyH P md ops Q S fuel (listed.setIfInBounds i true) a w) → K' a w) → Oper.wp P ⟨d, op, ty, p, af, g⟩ a w K' Q)
    (hw : Region.wanted ⟨d, op, ty, p, af, g⟩ (yielded ops a.tmps) = true := by rfl) (hr : Region.ready md ops listed = [i] := by kernel_rfl) : wpAnyH P md ops Q S (fuel + 1) listed a w :=
  wpAnyH_ready hr (by simp) (tR ho h AllReadyH.nil hw)
theorem tY (i : Nat) (hi : ops[i]? = some ⟨d, op, ty, p, af, g⟩) (b o : Nat) (cs : List Value) (hR : ∀ w, S w → w.rangeAt b o cs) {t : TypeId} {dd : TypeDesc} (hu : P.underlying t = some dd) (hz : (P.info? t).map (·.size) = some cs.length) (hS : S w)
    (h : wpAnyH P md ops Q S fuel l' a' w) {x : Operand} (ho : op = .load t x := by rfl) (hw : Region.wanted ⟨d, op, ty, p, af, g⟩ (yielded ops a.tmps) = true := by rfl) (hx : a.eval x = .pointer (some ⟨b, o, none⟩) := by rfl) (hd : dd.isRow = true := by rfl)
    (ha : a.put d (.agg cs.toArray) = a' := by (try simp only [Act.put, sA, s0, s1]); rfl) (hl : listed.setIfInBounds i true = l' := by (try simp only [sA, s0, s1]); rfl)
    (hs : Region.noSelect ops = true := by kernel_rfl) (hf : Region.free md ops listed i = true := by kernel_rfl) (hr : (Region.ready md ops listed).contains i = true := by kernel_rfl)
    (hQ : ∀ c a w, Q (.panic c) (a.put d (.agg cs.toArray)) w → Q (.panic c) a w := by exact fun _ _ _ h => h) : wpAnyH P md ops Q S (fuel + 1) listed a w :=
  tk0 hi (yieldsIf_load_mid hw t x ho b o hx cs dd hR hu hd hz) hS ha hl h hs hf hr hQ
theorem tU (i : Nat) (hi : ops[i]? = some ⟨d, op, ty, p, af, g⟩) (ps : Array (Nat × Value)) {t : TypeId} (hR : ∀ W, (Instr.build t ps).run P W = .ok v W) (hS : S w)
    (h : wpAnyH P md ops Q S fuel l' a' w) {parts : Array (Nat × Operand)} (ho : op = .build t parts := by rfl) (hw : Region.wanted ⟨d, op, ty, p, af, g⟩ (yielded ops a.tmps) = true := by rfl) (hp : (parts.map fun (i, x) => (i, a.eval x)) = ps := by simp only [List.map_toArray, List.map_cons, List.map_nil]; rfl)
    (ha : a.put d v = a' := by (try simp only [Act.put, sA, s0, s1]); rfl) (hl : listed.setIfInBounds i true = l' := by (try simp only [sA, s0, s1]); rfl)
    (hs : Region.noSelect ops = true := by kernel_rfl) (hf : Region.free md ops listed i = true := by kernel_rfl) (hr : (Region.ready md ops listed).contains i = true := by kernel_rfl)
    (hQ : ∀ c a w, Q (.panic c) (a.put d v) w → Q (.panic c) a w := by exact fun _ _ _ h => h) : wpAnyH P md ops Q S (fuel + 1) listed a w :=
  tk0 hi (Or.inl ⟨hw, fun w _ => by unfold execOp; simp only [ho, hp, Sem.run_bind, hR, Result.andThen_ok, Sem.run_pure]⟩) hS ha hl h hs hf hr hQ
end
end Go
