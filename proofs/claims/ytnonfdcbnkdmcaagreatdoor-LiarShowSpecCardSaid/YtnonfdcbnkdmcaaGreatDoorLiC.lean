/- liar.both: the entries of two lists with one number, yielded one by one ref30.Few and ref31.Few on arguments as they may come in what the examples of chapter 31 give, plainly rows of rules of the call's own: appends; chartroomlaw31.without liar.Apart sane of chapter 31's laws the opening of stores and liars as arguments for the laws of chapter 31: what is shown, its head -/
import Derived.Test.YtnonfdcbnkdmcaaGreatDoorAl
import Derived.Test.YtnonfdcbnkdmcaaGreatDoorLiB
import Derived.OrdersIn
import Derived.OwnWalkIn
import Derived.KernelRfl
import Derived.Sort.CutIn
import Derived.BigRegionIn
import Derived.Lib.SlBytesConst
namespace Go
theorem wpIn_load_mid {F : Fence} {n : Nat} {P : Program} {op : Oper} {a : Act} {w : World} {K : Act → World → Prop} {Q : Exit → Act → World → Prop} (_hro : F.round = none) (ty : TypeId) (x : Operand) (ho : op.op = .load ty x)
 (b o : Nat) (hx : a.eval x = .pointer (some ⟨b, o, none⟩)) (cs : List Value) (d : TypeDesc) (hc : w.rangeAt b o cs)
 (hu : P.underlying ty = some d) (hd : d.isRow = true) (hi : (P.info? ty).map (·.size) = some cs.length)
 (h : K (a.put op.dst (.agg cs.toArray)) w) : op.wpIn F n P a w K Q := by
 unfold Oper.wpIn
 refine ⟨?_, ?_⟩
 · simp [Oper.about, ho]
 · rw [Oper.semAt_plain F _ _ (by rw [ho]; intro c hc'; cases hc')]
   unfold execOp
   simp only [ho, hx, Instr.loadAt, Instr.sureAddr, Sem.run_bind, Sem.run_pure, Result.andThen_ok, run_loadVar_mid w b o ty cs d hc hu hd hi]
   exact h
end Go
namespace Go.Sto
def emp : Ent := ⟨0, List.replicate 32 0, [], false⟩
def atE (l : List Ent) (k : Nat) : Ent := (l[k]?).getD emp
theorem atE_of {l : List Ent} {k : Nat} {e : Ent} (h : l[k]? = some e) : atE l k = e := by unfold atE; rw [h]; rfl
theorem atE_out {l : List Ent} {k : Nat} (h : l.length ≤ k) : atE l k = emp := by unfold atE; rw [List.getElem?_eq_none h]; rfl
theorem apartE_none : ∀ {a b : List Ent}, (∀ k < min a.length b.length, (atE a k).dig = (atE b k).dig) → apartE a b = false
 | [], _, _ => by unfold apartE; rfl
 | _ :: _, [], _ => by unfold apartE; rfl
 | x :: a, y :: b, h => by
  have h0 : x.dig = y.dig := h 0 (by simp)
  unfold apartE
  rw [if_pos h0]
  exact apartE_none fun k hk => h (k + 1) (by simp only [List.length_cons]; omega)
theorem apartE_some : ∀ {a b : List Ent} (k : Nat), k < min a.length b.length → (atE a k).dig ≠ (atE b k).dig → apartE a b = true
 | [], _, _, h, _ => by simp at h
 | _ :: _, [], _, h, _ => by simp at h
 | x :: a, y :: b, 0, _, h => by
  have h0 : x.dig ≠ y.dig := h
  unfold apartE; rw [if_neg h0]
 | x :: a, y :: b, k + 1, hk, h => by
  unfold apartE
  split
  · exact apartE_some k (by simp only [List.length_cons] at hk; omega) h
  · rfl
end Go.Sto
namespace Go.Proofs.YtnonfdcbnkdmcaaGreatDoor
open Go.RowKit Go.Mem Go.Shelf
open Go.Sto (Ent St Rul forkE BdL)
attribute [local go_sem] Oper.semAt_some

theorem okE_emp : OkE Sto.emp := ⟨by simp [Sto.emp], fun u hu => by have := List.eq_of_mem_replicate hu; omega, by decide, by decide, by simp [Sto.emp]⟩
theorem ES.rowF {K : Nat → Prop} {w : World} {a : Option Addr} {n c : Nat} {l : List Ent} (H : ES K w a n c l) :
 ∃ r : Nat → List Value, (∀ k, OkE (Sto.atE l k) ∧ ∃ a n c, r k = entC (Sto.atE l k) a n c) ∧ (∀ k < n, ∃ b off, a = some ⟨b, off, none⟩ ∧ b < w.heap.size ∧ w.rangeAt b (off + k * 35) (r k)) := by
 have h : ∀ k, ∃ r, (OkE (Sto.atE l k) ∧ ∃ a n c, r = entC (Sto.atE l k) a n c) ∧ (k < n → ∃ b off, a = some ⟨b, off, none⟩ ∧ b < w.heap.size ∧ w.rangeAt b (off + k * 35) r) := by
  intro k
  have hl := H.rs.len
  by_cases hk : k < n
  · obtain ⟨b, off, r, rfl, hb, _, ⟨ok, da, dn, dc, er, _⟩, _, hrg⟩ := H.rs.get (List.getElem?_eq_getElem (by omega : k < l.length))
    refine ⟨r, ?_, fun _ => ⟨b, off, rfl, hb, hrg⟩⟩
    rw [Sto.atE_of (List.getElem?_eq_getElem (by omega : k < l.length))]
    exact ⟨ok, da, dn, dc, er⟩
  · refine ⟨entC Sto.emp none 0 0, ?_, fun h => absurd h hk⟩
    rw [Sto.atE_out (by omega)]
    exact ⟨okE_emp, none, 0, 0, rfl⟩
 refine ⟨fun k => (h k).choose, fun k => (h k).choose_spec.1, fun k hk => (h k).choose_spec.2 hk⟩

theorem both_any (a a' : Option Addr) (n c n' c' : Nat) (w : World) :
 Calls Tryz.prog 45 #[.slice a n c, .slice a' n' c'] w fun e w' => e = .returned (.func (.func 97) #[] #[.pointer (some ⟨w.heap.size, 0, none⟩), .pointer (some ⟨w.heap.size + 1, 0, none⟩)]) ∧ w' = (w.alloc (.cells #[.slice a n c] 30)).alloc (.cells #[.slice a' n' c'] 30) := by
 go_enter Tryz.func45, Tryz.ntmps45
 go_wp2_with fail
 go_ret
 exact ⟨rfl, rfl⟩

def encB (r1 r2 : Nat → List Value) (k : Nat) : Array Value := #[.agg (r1 k).toArray, .agg (r2 k).toArray]

def BthR (J Jx : List Nat → World → Prop) (l : Nat) (pre : List Nat) (A : World) (q : Bool) (C : World) : Prop := (q = true → J pre C ∧ A.grownBy C (some l)) ∧ (q = false → Jx pre C)
set_option maxRecDepth 20000 in
set_option maxHeartbeats 4000000 in
theorem bothIter_in (l B1 B2 n1 c1 n2 c2 : Nat) (a1 a2 : Option Addr) (r1 r2 : Nat → List Value) (J Jx : List Nat → World → Prop) (w0 W : World)
 (h1 : ∀ k < n1, ∃ b off, a1 = some ⟨b, off, none⟩ ∧ b < w0.heap.size ∧ w0.rangeAt b (off + k * 35) (r1 k)) (h2 : ∀ k < n2, ∃ b off, a2 = some ⟨b, off, none⟩ ∧ b < w0.heap.size ∧ w0.rangeAt b (off + k * 35) (r2 k))
 (hl1 : ∀ k, (r1 k).length = 35) (hl2 : ∀ k, (r2 k).length = 35) (hn1 : n1 ≤ 100000) (_hn2 : n2 ≤ 100000)
 (cf : w0.cell? ⟨B1, 0, none⟩ = some (.slice a1 n1 c1)) (cs : w0.cell? ⟨B2, 0, none⟩ = some (.slice a2 n2 c2)) (hB1 : B1 < w0.heap.size) (hB2 : B2 < w0.heap.size)
 (hW : Below w0.heap.size w0 W) (hJ : Deaf W.heap.size J) (hl0 : w0.heap.size ≤ l)
 (hY : ∀ pre x A, J pre A → pre.length < min n1 n2 → YieldAt Fence.wide 4 Tryz.prog l (encB r1 r2 x) A fun e C =>
   (e = .returned (.bool true) ∧ J (pre ++ [x]) C ∧ A.grownBy C (some l)) ∨ (e = .returned (.bool false) ∧ Jx (pre ++ [x]) C))
 (h0 : J [] W) :
 CallsIn Fence.wide 5 Tryz.prog 97 #[.func (.yield l) #[] #[], .pointer (some ⟨B1, 0, none⟩), .pointer (some ⟨B2, 0, none⟩)] W fun e C => (∃ v, e = .returned v) ∧
  ((∃ xs, xs = List.range (min n1 n2) ∧ J xs C) ∨ (∃ pre, pre <+: List.range (min n1 n2) ∧ Jx pre C)) := by
 obtain ⟨m, hm⟩ : ∃ m, Hid (min n1 n2 = m) := ⟨_, rfl⟩
 have hmin : min (n1 : Int) (n2 : Int) = (m : Int) := by rw [← hm.out]; omega
 have hm1 : m ≤ n1 := by rw [← hm.out]; omega
 have hm2 : m ≤ n2 := by rw [← hm.out]; omega
 rw [hm.out] at hY ⊢
 clear hm
 have h1' := Lib.hid h1; have h2' := Lib.hid h2
 have hY' := Lib.hid hY
 clear h1 h2 hY
 have cf1 := (hW.cell (p := ⟨B1, 0, none⟩) hB1).trans cf
 have cs1 := (hW.cell (p := ⟨B2, 0, none⟩) hB2).trans cs
 refine callsIn_of_wp Tryz.func97 rfl trivial ?_ rfl
 simp only [Tryz.ntmps97, List.size_toArray, List.length_cons, List.length_nil, Nat.reduceAdd, Nat.reduceSub, Array.replicate_succ, Array.replicate_zero, List.push_toArray, List.append_toArray, List.nil_append, List.cons_append]
 gi_wp2_with fail
 clear cf1 cs1
 gi_loopw [10] (fun i wr => ∃ k : Nat, k ≤ m ∧ i = .int .i64 k ∧ J (List.range k) wr ∧ Hid (Below w0.heap.size w0 wr)) (fun i _ => m - (intOf i).toNat)
 case atStart => exact ⟨0, Nat.zero_le _, rfl, h0, hW⟩
 case round =>
  obtain ⟨k, hk, rfl, hJs, hbw⟩ := hrel
  by_cases hlt : k < m
  · obtain ⟨b1, o1, rfl, hl1b, hr1⟩ := h1'.out k (by omega)
    obtain ⟨b2, o2, rfl, hl2b, hr2⟩ := h2'.out k (by omega)
    have d1 := (hbw.out.cell (p := ⟨B1, 0, none⟩) hB1).trans cf
    have d2 := (hbw.out.cell (p := ⟨B2, 0, none⟩) hB2).trans cs
    have hJd : J (List.range k) wr.drew := hJ.none hJs ⟨rfl, rfl, rfl, Nat.le_refl _, fun _ _ _ => rfl⟩
    have hY1 := hY'.out _ k _ hJd (by rw [List.length_range]; exact hlt)
    unfold encB at hY1
    rw [← List.range_succ] at hY1
    obtain ⟨fn, tmps, assign, body, hy, hR⟩ := hY1
    have hR' : Hid (RoundIn Fence.wide 4 Tryz.prog l fn tmps assign body wr.drew fun e C => ∃ q, e = .returned (.bool q) ∧ BthR J Jx l (List.range k.succ) wr.drew q C) := hR.mono fun e C h => by
     rcases h with ⟨rfl, h1, h2⟩ | ⟨rfl, h1⟩
     · exact ⟨true, rfl, (fun _ => ⟨h1, h2⟩), (fun e => by cases e)⟩
     · exact ⟨false, rfl, (fun e => by cases e), (fun _ => h1)⟩
    have hr1 : Hid (wr.drew.rangeAt b1 (o1 + k * 35) (r1 k)) := fun j v hv => (hbw.out.cell (p := ⟨b1, _, none⟩) hl1b).trans (hr1 j v hv)
    have hr2 : Hid (wr.drew.rangeAt b2 (o2 + k * 35) (r2 k)) := fun j v hv => (hbw.out.cell (p := ⟨b2, _, none⟩) hl2b).trans (hr2 j v hv)
    have hbd := Lib.hid hbw.out.drew
    have hpre : Hid (List.range k.succ <+: List.range m) := by
     show _ <+: _
     obtain ⟨j, rfl⟩ : ∃ j, m = k.succ + j := ⟨m - (k + 1), by omega⟩
     rw [List.range_add]
     exact List.prefix_append _ _
    have k0 : (0 : Int) ≤ (k : Int) := by omega
    have k1 : (k : Int) < (n1 : Int) := by omega
    have k2 : (k : Int) < (n2 : Int) := by omega
    have kw : IntKind.i64.wrap ((k : Int) + 1) = (k : Int) + 1 := IntWalk.i64_in _ (by omega)
    clear hR hJs hJd hbw h1' h2'
    gi_wp2_with fail
    refine wpIn_region_any (by kernel_rfl) ?_
    change wpAnyIn _ _ _ _ _ _ _ _ _ (World.drew _)
    refine wpAnyIn_take (i := 0) (v := ?_) rfl rfl (by kernel_rfl) (by kernel_rfl) (by kernel_rfl) (fun _ _ _ h => h) ⟨Or.inl ⟨by rfl, ?_⟩, fun _ => rfl⟩ ?_
    rotate_left
    · intro wz
      go_simp
      all_goals (with_reducible rfl)
    try simp only [Act.put, List.setIfInBounds_toArray]
    refine wpAnyIn_take (i := 2) (v := ?_) rfl rfl (by kernel_rfl) (by kernel_rfl) (by kernel_rfl) (fun _ _ _ h => h) ⟨Or.inl ⟨by rfl, ?_⟩, fun _ => rfl⟩ ?_
    rotate_left
    · intro wz
      go_simp
      all_goals (with_reducible rfl)
    try simp only [Act.put]
    refine wpAnyIn_take (i := 6) (v := ?_) rfl rfl (by kernel_rfl) (by kernel_rfl) (by kernel_rfl) (fun _ _ _ h => h) ⟨Or.inl ⟨by rfl, ?_⟩, fun _ => rfl⟩ ?_
    rotate_left
    · intro wz
      go_simp
      all_goals (with_reducible rfl)
    try simp only [Act.put]
    refine wpAnyIn_ready (rs := [1, 5]) (by kernel_rfl) (by simp) ?_
    refine AllReadyIn.cons rfl (fun K hK => ?_) ?_
    ·
     rw [if_pos (by rfl)]
     go_simp
     refine hK _ _ ?_
     clear hK K
     try simp only [Act.put, sA, s0, s1]
     refine wpAnyIn_take (i := 3) (v := ?_) rfl rfl (by kernel_rfl) (by kernel_rfl) (by kernel_rfl) (fun _ _ _ h => h) ⟨Or.inl ⟨by rfl, ?_⟩, fun _ => rfl⟩ ?_
     rotate_left
     · intro wz
       go_simp
       all_goals (with_reducible rfl)
     try simp only [Act.put, List.setIfInBounds_toArray]
     refine wpAnyIn_ready (rs := [4, 5]) (by kernel_rfl) (by simp) ?_
     refine AllReadyIn.cons rfl (fun K hK => ?_) ?_
     ·
      rw [if_pos (by rfl)]
      refine wpIn_load_mid rfl 75 _ rfl b1 (o1 + k * 35) rfl (r1 k) _ hr1.out Tryz.underlying75 rfl (by rw [hl1]; exact sizeE) ?_
      refine hK _ _ ?_
      clear hK K
      try simp only [Act.put]
      refine wpAnyIn_ready (rs := [5]) (by kernel_rfl) (by simp) ?_
      refine AllReadyIn.cons rfl (fun K hK => ?_) AllReadyIn.nil
      rw [if_pos (by rfl)]
      go_simp
      refine hK _ _ ?_
      clear hK K
      try simp only [Act.put, sA, s0, s1]
      refine wpAnyIn_take (i := 7) (v := ?_) rfl rfl (by kernel_rfl) (by kernel_rfl) (by kernel_rfl) (fun _ _ _ h => h) ⟨Or.inl ⟨by rfl, ?_⟩, fun _ => rfl⟩ ?_
      rotate_left
      · intro wz
        go_simp
        all_goals (with_reducible rfl)
      try simp only [Act.put, List.setIfInBounds_toArray]
      refine wpAnyIn_ready (rs := [8]) (by kernel_rfl) (by simp) ?_
      refine AllReadyIn.cons rfl (fun K hK => ?_) AllReadyIn.nil
      rw [if_pos (by rfl)]
      refine wpIn_load_mid rfl 75 _ rfl b2 (o2 + k * 35) rfl (r2 k) _ hr2.out Tryz.underlying75 rfl (by rw [hl2]; exact sizeE) ?_
      refine hK _ _ ?_
      clear hK K
      try simp only [Act.put]
      refine wpAnyIn_ready (rs := [9]) (by kernel_rfl) (by simp) ?_
      refine AllReadyIn.cons rfl (fun K hK => ?_) AllReadyIn.nil
      rw [if_pos (by rfl)]
      go_simp
      refine hR'.out.mono ?_
      rintro e W3 ⟨q, rfl, hq⟩
      refine hK _ _ ?_
      clear hK K
      try simp only [Act.put, sA, s0, s1]
      refine wpAnyIn_take (i := 10) (v := ?_) rfl rfl (by kernel_rfl) (by kernel_rfl) (by kernel_rfl) (fun _ _ _ h => h) ⟨Or.inl ⟨by rfl, ?_⟩, fun _ => rfl⟩ ?_
      rotate_left
      · intro wz
        go_simp
        all_goals (with_reducible rfl)
      try simp only [Act.put, List.setIfInBounds_toArray]
      refine wpAnyIn_done (by kernel_rfl) ?_ _
      cases q with
      | true =>
       obtain ⟨hJ3, hk3⟩ := hq.1 rfl
       have hb3 : Hid (Below w0.heap.size w0 W3) := hbd.out.grown hk3 hbd.out.size (fun r e => by cases e; exact hl0)
       clear hq hbd
       gi_wp2_with fail
       go_roundw
       case rel => exact ⟨k + 1, by omega, by go_num, hJ3, hb3⟩
       case measure => simp [intOf]; omega
      | false =>
       have hJx := hq.2 rfl
       clear hq hbd
       gi_wp2_with fail
       refine bodyPost_ret (results_none rfl _ _ _) rfl ?_
       exact ⟨⟨_, rfl⟩, .inr ⟨_, hpre.out, hJx⟩⟩
     refine AllReadyIn.cons rfl (fun K hK => ?_) AllReadyIn.nil
     rw [if_pos (by rfl)]
     go_simp
     refine hK _ _ ?_
     clear hK K
     try simp only [Act.put, sA, s0, s1]
     refine wpAnyIn_take (i := 7) (v := ?_) rfl rfl (by kernel_rfl) (by kernel_rfl) (by kernel_rfl) (fun _ _ _ h => h) ⟨Or.inl ⟨by rfl, ?_⟩, fun _ => rfl⟩ ?_
     rotate_left
     · intro wz
       go_simp
       all_goals (with_reducible rfl)
     try simp only [Act.put, List.setIfInBounds_toArray]
     refine wpAnyIn_ready (rs := [4, 8]) (by kernel_rfl) (by simp) ?_
     refine AllReadyIn.cons rfl (fun K hK => ?_) ?_
     ·
      rw [if_pos (by rfl)]
      refine wpIn_load_mid rfl 75 _ rfl b1 (o1 + k * 35) rfl (r1 k) _ hr1.out Tryz.underlying75 rfl (by rw [hl1]; exact sizeE) ?_
      refine hK _ _ ?_
      clear hK K
      try simp only [Act.put]
      refine wpAnyIn_ready (rs := [8]) (by kernel_rfl) (by simp) ?_
      refine AllReadyIn.cons rfl (fun K hK => ?_) AllReadyIn.nil
      rw [if_pos (by rfl)]
      refine wpIn_load_mid rfl 75 _ rfl b2 (o2 + k * 35) rfl (r2 k) _ hr2.out Tryz.underlying75 rfl (by rw [hl2]; exact sizeE) ?_
      refine hK _ _ ?_
      clear hK K
      try simp only [Act.put]
      refine wpAnyIn_ready (rs := [9]) (by kernel_rfl) (by simp) ?_
      refine AllReadyIn.cons rfl (fun K hK => ?_) AllReadyIn.nil
      rw [if_pos (by rfl)]
      go_simp
      refine hR'.out.mono ?_
      rintro e W3 ⟨q, rfl, hq⟩
      refine hK _ _ ?_
      clear hK K
      try simp only [Act.put, sA, s0, s1]
      refine wpAnyIn_take (i := 10) (v := ?_) rfl rfl (by kernel_rfl) (by kernel_rfl) (by kernel_rfl) (fun _ _ _ h => h) ⟨Or.inl ⟨by rfl, ?_⟩, fun _ => rfl⟩ ?_
      rotate_left
      · intro wz
        go_simp
        all_goals (with_reducible rfl)
      try simp only [Act.put, List.setIfInBounds_toArray]
      refine wpAnyIn_done (by kernel_rfl) ?_ _
      cases q with
      | true =>
       obtain ⟨hJ3, hk3⟩ := hq.1 rfl
       have hb3 : Hid (Below w0.heap.size w0 W3) := hbd.out.grown hk3 hbd.out.size (fun r e => by cases e; exact hl0)
       clear hq hbd
       gi_wp2_with fail
       go_roundw
       case rel => exact ⟨k + 1, by omega, by go_num, hJ3, hb3⟩
       case measure => simp [intOf]; omega
      | false =>
       have hJx := hq.2 rfl
       clear hq hbd
       gi_wp2_with fail
       refine bodyPost_ret (results_none rfl _ _ _) rfl ?_
       exact ⟨⟨_, rfl⟩, .inr ⟨_, hpre.out, hJx⟩⟩
     refine AllReadyIn.cons rfl (fun K hK => ?_) AllReadyIn.nil
     rw [if_pos (by rfl)]
     refine wpIn_load_mid rfl 75 _ rfl b2 (o2 + k * 35) rfl (r2 k) _ hr2.out Tryz.underlying75 rfl (by rw [hl2]; exact sizeE) ?_
     refine hK _ _ ?_
     clear hK K
     try simp only [Act.put]
     refine wpAnyIn_ready (rs := [4]) (by kernel_rfl) (by simp) ?_
     refine AllReadyIn.cons rfl (fun K hK => ?_) AllReadyIn.nil
     rw [if_pos (by rfl)]
     refine wpIn_load_mid rfl 75 _ rfl b1 (o1 + k * 35) rfl (r1 k) _ hr1.out Tryz.underlying75 rfl (by rw [hl1]; exact sizeE) ?_
     refine hK _ _ ?_
     clear hK K
     try simp only [Act.put]
     refine wpAnyIn_ready (rs := [9]) (by kernel_rfl) (by simp) ?_
     refine AllReadyIn.cons rfl (fun K hK => ?_) AllReadyIn.nil
     rw [if_pos (by rfl)]
     go_simp
     refine hR'.out.mono ?_
     rintro e W3 ⟨q, rfl, hq⟩
     refine hK _ _ ?_
     clear hK K
     try simp only [Act.put, sA, s0, s1]
     refine wpAnyIn_take (i := 10) (v := ?_) rfl rfl (by kernel_rfl) (by kernel_rfl) (by kernel_rfl) (fun _ _ _ h => h) ⟨Or.inl ⟨by rfl, ?_⟩, fun _ => rfl⟩ ?_
     rotate_left
     · intro wz
       go_simp
       all_goals (with_reducible rfl)
     try simp only [Act.put, List.setIfInBounds_toArray]
     refine wpAnyIn_done (by kernel_rfl) ?_ _
     cases q with
     | true =>
      obtain ⟨hJ3, hk3⟩ := hq.1 rfl
      have hb3 : Hid (Below w0.heap.size w0 W3) := hbd.out.grown hk3 hbd.out.size (fun r e => by cases e; exact hl0)
      clear hq hbd
      gi_wp2_with fail
      go_roundw
      case rel => exact ⟨k + 1, by omega, by go_num, hJ3, hb3⟩
      case measure => simp [intOf]; omega
     | false =>
      have hJx := hq.2 rfl
      clear hq hbd
      gi_wp2_with fail
      refine bodyPost_ret (results_none rfl _ _ _) rfl ?_
      exact ⟨⟨_, rfl⟩, .inr ⟨_, hpre.out, hJx⟩⟩
    refine AllReadyIn.cons rfl (fun K hK => ?_) AllReadyIn.nil
    rw [if_pos (by rfl)]
    go_simp
    refine hK _ _ ?_
    clear hK K
    try simp only [Act.put, sA, s0, s1]
    refine wpAnyIn_take (i := 7) (v := ?_) rfl rfl (by kernel_rfl) (by kernel_rfl) (by kernel_rfl) (fun _ _ _ h => h) ⟨Or.inl ⟨by rfl, ?_⟩, fun _ => rfl⟩ ?_
    rotate_left
    · intro wz
      go_simp
      all_goals (with_reducible rfl)
    try simp only [Act.put, List.setIfInBounds_toArray]
    refine wpAnyIn_ready (rs := [1, 8]) (by kernel_rfl) (by simp) ?_
    refine AllReadyIn.cons rfl (fun K hK => ?_) ?_
    ·
     rw [if_pos (by rfl)]
     go_simp
     refine hK _ _ ?_
     clear hK K
     try simp only [Act.put, sA, s0, s1]
     refine wpAnyIn_take (i := 3) (v := ?_) rfl rfl (by kernel_rfl) (by kernel_rfl) (by kernel_rfl) (fun _ _ _ h => h) ⟨Or.inl ⟨by rfl, ?_⟩, fun _ => rfl⟩ ?_
     rotate_left
     · intro wz
       go_simp
       all_goals (with_reducible rfl)
     try simp only [Act.put, List.setIfInBounds_toArray]
     refine wpAnyIn_ready (rs := [4, 8]) (by kernel_rfl) (by simp) ?_
     refine AllReadyIn.cons rfl (fun K hK => ?_) ?_
     ·
      rw [if_pos (by rfl)]
      refine wpIn_load_mid rfl 75 _ rfl b1 (o1 + k * 35) rfl (r1 k) _ hr1.out Tryz.underlying75 rfl (by rw [hl1]; exact sizeE) ?_
      refine hK _ _ ?_
      clear hK K
      try simp only [Act.put]
      refine wpAnyIn_ready (rs := [8]) (by kernel_rfl) (by simp) ?_
      refine AllReadyIn.cons rfl (fun K hK => ?_) AllReadyIn.nil
      rw [if_pos (by rfl)]
      refine wpIn_load_mid rfl 75 _ rfl b2 (o2 + k * 35) rfl (r2 k) _ hr2.out Tryz.underlying75 rfl (by rw [hl2]; exact sizeE) ?_
      refine hK _ _ ?_
      clear hK K
      try simp only [Act.put]
      refine wpAnyIn_ready (rs := [9]) (by kernel_rfl) (by simp) ?_
      refine AllReadyIn.cons rfl (fun K hK => ?_) AllReadyIn.nil
      rw [if_pos (by rfl)]
      go_simp
      refine hR'.out.mono ?_
      rintro e W3 ⟨q, rfl, hq⟩
      refine hK _ _ ?_
      clear hK K
      try simp only [Act.put, sA, s0, s1]
      refine wpAnyIn_take (i := 10) (v := ?_) rfl rfl (by kernel_rfl) (by kernel_rfl) (by kernel_rfl) (fun _ _ _ h => h) ⟨Or.inl ⟨by rfl, ?_⟩, fun _ => rfl⟩ ?_
      rotate_left
      · intro wz
        go_simp
        all_goals (with_reducible rfl)
      try simp only [Act.put, List.setIfInBounds_toArray]
      refine wpAnyIn_done (by kernel_rfl) ?_ _
      cases q with
      | true =>
       obtain ⟨hJ3, hk3⟩ := hq.1 rfl
       have hb3 : Hid (Below w0.heap.size w0 W3) := hbd.out.grown hk3 hbd.out.size (fun r e => by cases e; exact hl0)
       clear hq hbd
       gi_wp2_with fail
       go_roundw
       case rel => exact ⟨k + 1, by omega, by go_num, hJ3, hb3⟩
       case measure => simp [intOf]; omega
      | false =>
       have hJx := hq.2 rfl
       clear hq hbd
       gi_wp2_with fail
       refine bodyPost_ret (results_none rfl _ _ _) rfl ?_
       exact ⟨⟨_, rfl⟩, .inr ⟨_, hpre.out, hJx⟩⟩
     refine AllReadyIn.cons rfl (fun K hK => ?_) AllReadyIn.nil
     rw [if_pos (by rfl)]
     refine wpIn_load_mid rfl 75 _ rfl b2 (o2 + k * 35) rfl (r2 k) _ hr2.out Tryz.underlying75 rfl (by rw [hl2]; exact sizeE) ?_
     refine hK _ _ ?_
     clear hK K
     try simp only [Act.put]
     refine wpAnyIn_ready (rs := [4]) (by kernel_rfl) (by simp) ?_
     refine AllReadyIn.cons rfl (fun K hK => ?_) AllReadyIn.nil
     rw [if_pos (by rfl)]
     refine wpIn_load_mid rfl 75 _ rfl b1 (o1 + k * 35) rfl (r1 k) _ hr1.out Tryz.underlying75 rfl (by rw [hl1]; exact sizeE) ?_
     refine hK _ _ ?_
     clear hK K
     try simp only [Act.put]
     refine wpAnyIn_ready (rs := [9]) (by kernel_rfl) (by simp) ?_
     refine AllReadyIn.cons rfl (fun K hK => ?_) AllReadyIn.nil
     rw [if_pos (by rfl)]
     go_simp
     refine hR'.out.mono ?_
     rintro e W3 ⟨q, rfl, hq⟩
     refine hK _ _ ?_
     clear hK K
     try simp only [Act.put, sA, s0, s1]
     refine wpAnyIn_take (i := 10) (v := ?_) rfl rfl (by kernel_rfl) (by kernel_rfl) (by kernel_rfl) (fun _ _ _ h => h) ⟨Or.inl ⟨by rfl, ?_⟩, fun _ => rfl⟩ ?_
     rotate_left
     · intro wz
       go_simp
       all_goals (with_reducible rfl)
     try simp only [Act.put, List.setIfInBounds_toArray]
     refine wpAnyIn_done (by kernel_rfl) ?_ _
     cases q with
     | true =>
      obtain ⟨hJ3, hk3⟩ := hq.1 rfl
      have hb3 : Hid (Below w0.heap.size w0 W3) := hbd.out.grown hk3 hbd.out.size (fun r e => by cases e; exact hl0)
      clear hq hbd
      gi_wp2_with fail
      go_roundw
      case rel => exact ⟨k + 1, by omega, by go_num, hJ3, hb3⟩
      case measure => simp [intOf]; omega
     | false =>
      have hJx := hq.2 rfl
      clear hq hbd
      gi_wp2_with fail
      refine bodyPost_ret (results_none rfl _ _ _) rfl ?_
      exact ⟨⟨_, rfl⟩, .inr ⟨_, hpre.out, hJx⟩⟩
    refine AllReadyIn.cons rfl (fun K hK => ?_) AllReadyIn.nil
    rw [if_pos (by rfl)]
    refine wpIn_load_mid rfl 75 _ rfl b2 (o2 + k * 35) rfl (r2 k) _ hr2.out Tryz.underlying75 rfl (by rw [hl2]; exact sizeE) ?_
    refine hK _ _ ?_
    clear hK K
    try simp only [Act.put]
    refine wpAnyIn_ready (rs := [1]) (by kernel_rfl) (by simp) ?_
    refine AllReadyIn.cons rfl (fun K hK => ?_) AllReadyIn.nil
    rw [if_pos (by rfl)]
    go_simp
    refine hK _ _ ?_
    clear hK K
    try simp only [Act.put, sA, s0, s1]
    refine wpAnyIn_take (i := 3) (v := ?_) rfl rfl (by kernel_rfl) (by kernel_rfl) (by kernel_rfl) (fun _ _ _ h => h) ⟨Or.inl ⟨by rfl, ?_⟩, fun _ => rfl⟩ ?_
    rotate_left
    · intro wz
      go_simp
      all_goals (with_reducible rfl)
    try simp only [Act.put, List.setIfInBounds_toArray]
    refine wpAnyIn_ready (rs := [4]) (by kernel_rfl) (by simp) ?_
    refine AllReadyIn.cons rfl (fun K hK => ?_) AllReadyIn.nil
    rw [if_pos (by rfl)]
    refine wpIn_load_mid rfl 75 _ rfl b1 (o1 + k * 35) rfl (r1 k) _ hr1.out Tryz.underlying75 rfl (by rw [hl1]; exact sizeE) ?_
    refine hK _ _ ?_
    clear hK K
    try simp only [Act.put]
    refine wpAnyIn_ready (rs := [9]) (by kernel_rfl) (by simp) ?_
    refine AllReadyIn.cons rfl (fun K hK => ?_) AllReadyIn.nil
    rw [if_pos (by rfl)]
    go_simp
    refine hR'.out.mono ?_
    rintro e W3 ⟨q, rfl, hq⟩
    refine hK _ _ ?_
    clear hK K
    try simp only [Act.put, sA, s0, s1]
    refine wpAnyIn_take (i := 10) (v := ?_) rfl rfl (by kernel_rfl) (by kernel_rfl) (by kernel_rfl) (fun _ _ _ h => h) ⟨Or.inl ⟨by rfl, ?_⟩, fun _ => rfl⟩ ?_
    rotate_left
    · intro wz
      go_simp
      all_goals (with_reducible rfl)
    try simp only [Act.put, List.setIfInBounds_toArray]
    refine wpAnyIn_done (by kernel_rfl) ?_ _
    cases q with
    | true =>
     obtain ⟨hJ3, hk3⟩ := hq.1 rfl
     have hb3 : Hid (Below w0.heap.size w0 W3) := hbd.out.grown hk3 hbd.out.size (fun r e => by cases e; exact hl0)
     clear hq hbd
     gi_wp2_with fail
     go_roundw
     case rel => exact ⟨k + 1, by omega, by go_num, hJ3, hb3⟩
     case measure => simp [intOf]; omega
    | false =>
     have hJx := hq.2 rfl
     clear hq hbd
     gi_wp2_with fail
     refine bodyPost_ret (results_none rfl _ _ _) rfl ?_
     exact ⟨⟨_, rfl⟩, .inr ⟨_, hpre.out, hJx⟩⟩
  · obtain rfl : k = m := by omega
    gi_wp2_with fail
    go_end0
    exact ⟨⟨_, rfl⟩, .inl ⟨_, rfl, hJs⟩⟩
end Go.Proofs.YtnonfdcbnkdmcaaGreatDoor
namespace Go.Proofs.YtnonfdcbnkdmcaaGreatDoor
open Go.RowKit Go.Mem Go.Shelf
open Go.Sto (Ent Lg St Rul forkE BdL)

def LVr (w : World) (x : Lg) (r : List Value) : Prop := I64 x.folder ∧ ∃ a n c, r = logC x.folder a n c ∧ ESr w a n c x.es
abbrev LSr (w : World) (a : Option Addr) (n c : Nat) (l : List Lg) : Prop := RS 2 LVr (fun _ => True) w a n c l
theorem LSr.below {w w' : World} {a : Option Addr} {n c : Nat} {l : List Lg} (h : LSr w a n c l) (hb : Below w.heap.size w w') : LSr w' a n c l := h.keep (.below hb) fun _ _ ⟨ho, a, n, c, er, hB⟩ => ⟨ho, a, n, c, er, ESr.below hB hb⟩
structure SVr (w : World) (a : Option Addr) (n c : Nat) (s : St) : Prop where
 ls : LSr w a n c s.logs
 id : I64 s.id
 priv : I64 s.priv
theorem SVr.below {w w' : World} {a : Option Addr} {n c : Nat} {s : St} (h : SVr w a n c s) (hb : Below w.heap.size w w') : SVr w' a n c s := ⟨h.ls.below hb, h.id, h.priv⟩
def few30s (s : St) : Bool := s.logs.all (fun x => few30 x.es) && decide (s.logs.length ≤ 4)
theorem few30_iff {l : List Ent} (h : few30 l = true) : l.length ≤ 14 ∧ ∀ e ∈ l, e.data.length ≤ 9000 := by
 unfold few30 fewE at h
 simp only [Bool.and_eq_true, List.all_eq_true, decide_eq_true_eq] at h
 exact ⟨h.2, h.1⟩
theorem few30s_iff {s : St} (h : few30s s = true) : s.logs.length ≤ 4 ∧ ∀ x ∈ s.logs, x.es.length ≤ 14 ∧ ∀ e ∈ x.es, e.data.length ≤ 9000 := by
 unfold few30s at h
 simp only [Bool.and_eq_true, List.all_eq_true, decide_eq_true_eq] at h
 exact ⟨h.2, fun x hx => few30_iff (h.1 x hx)⟩
theorem SVr.sv {w : World} {a : Option Addr} {n c : Nat} {s : St} (h : SVr w a n c s) (hf : few30s s = true) : SV (fun _ => True) w a n c s := by
 obtain ⟨h1, h2⟩ := few30s_iff hf
 refine ⟨⟨⟨h.ls.len, h.ls.sep, ?_⟩, by have := h.ls.len; omega⟩, h.id, h.priv⟩
 obtain ⟨rows, hR, hO⟩ := h.ls.rows
 refine ⟨rows, hR, hO.len, hO.size, fun i x r hx hr => ?_⟩
 obtain ⟨ho, a, n, c, er, hB⟩ := hO.each i x r hx hr
 obtain ⟨h3, h4⟩ := h2 x (List.mem_of_getElem? hx)
 exact ⟨ho, a, n, c, er, ESr.es hB (by have := hB.len; omega) fun e he => Nat.le_trans (h4 e he) (by omega)⟩
theorem _root_.Go.Sto.few_bd' {s : St} (h2 : ∀ x ∈ s.logs, x.es.length ≤ 14 ∧ ∀ e ∈ x.es, e.data.length ≤ 9000) (f : Int) : BdL 0 (Sto.ents s f) := by
 unfold Sto.ents
 revert h2
 generalize s.logs = l
 intro h2
 induction l with
 | nil => exact ⟨by simp [Sto.entsL], by simp [Sto.entsL]⟩
 | cons x l ih =>
  unfold Sto.entsL
  split
  · obtain ⟨h3, h4⟩ := h2 x (List.mem_cons_self ..)
    exact ⟨by omega, fun e he => Nat.le_trans (h4 e he) (by omega)⟩
  · exact ih fun y hy => h2 y (List.mem_cons_of_mem _ hy)
theorem few_bd {s : St} (h : few30s s = true) (f : Int) : BdL 0 (Sto.ents s f) := Sto.few_bd' (few30s_iff h).2 f

set_option maxRecDepth 20000 in
set_option maxHeartbeats 1000000 in
theorem few30s_any (a : Option Addr) (n c : Nat) (s : St) (w : World) (H : SVr w a n c s) :
 Calls Tryz.prog 36 #[.agg (stC s a n c).toArray] w (RetBo (few30s s) w) := by
 have hlen := H.ls.len
 have hmx := H.ls.max
 have hle := H.ls.le
 have n63 : (n : Int) ≤ 9223372036854775807 := by omega
 obtain ⟨sb, hsb⟩ : ∃ sb, Hid (w.heap.size = sb) := ⟨_, rfl⟩
 obtain ⟨W1, hW1⟩ : ∃ W1, Hid (w.alloc (.cells #[.int .i64 s.id, .int .i64 s.priv, .slice a n c] 24) = W1) := ⟨_, rfl⟩
 have hB1 : Hid (Blk W1 sb 24 (stC s a n c)) := by rw [← hW1.out, ← hsb.out]; exact Blk.new w _ (stC s a n c)
 have hb1 : Hid (Below w.heap.size w W1) := by rw [← hW1.out]; exact (Below.refl _ w).alloc (Nat.le_refl _) _
 have H' := Lib.hid (H.below hb1.out)
 clear H hmx hle
 obtain ⟨X, hX⟩ : ∃ X, Hid (X = RetBo (few30s s) w) := ⟨_, rfl⟩
 have hfin : Hid (∀ b, few30s s = b → X (.returned (.bool b)) W1) := fun b hb => by rw [hX.out, hb]; exact ⟨rfl, hb1.out⟩
 rw [← hX.out]
 clear hX
 unfold stC at *
 go_enter Tryz.func36, Tryz.ntmps36
 go_upto_region 1 with fail
 rw [hsb.out]
 generalize hWq : w.alloc _ = Wq
 obtain rfl : W1 = Wq := by rw [← hWq]; exact hW1.out.symm
 clear hWq hW1
 have c2 := hB1.out.at_ (i := 2) rfl
 clear hB1 hb1
 go_wp2_with fail
 go_loop [3] (fun i => ∃ k : Nat, k ≤ n ∧ i = .int .i64 k ∧ Hid (∀ x ∈ s.logs.take k, few30 x.es = true)) (fun i => n - (intOf i).toNat)
 case atStart => exact ⟨0, Nat.zero_le _, rfl, fun _ h => by cases h⟩
 case round =>
  obtain ⟨k, hk, rfl, hall⟩ := hrel
  by_cases hlt : k < n
  · obtain ⟨x, hx⟩ : ∃ x, s.logs[k]? = some x := ⟨_, List.getElem?_eq_getElem (by omega)⟩
    obtain ⟨b, off, r, rfl, hbl, _, ⟨ho, da, dn, dc, er, hE⟩, hrl, hrg⟩ := H'.out.ls.get hx
    have hc : W1.cell? ⟨b, off + k * 2 + 1, none⟩ = some (.slice da dn dc) := by rw [er] at hrg; exact hrg 1 _ rfl
    have hfe := Lib.hid (fewE30_any da dn dc x.es W1 hE)
    have k0 : (0 : Int) ≤ (k : Int) := by omega
    have k1 : (k : Int) < (n : Int) := by omega
    have kw : IntKind.i64.wrap ((k : Int) + 1) = (k : Int) + 1 := IntWalk.i64_in _ (by omega)
    clear er hrg hrl ho hE
    obtain ⟨q, hq⟩ : ∃ q, Hid (few30 x.es = q) := ⟨_, rfl⟩
    rw [hq.out] at hfe
    go_wp2_with fail
    refine hfe.out.mono ?_
    rintro e w2 ⟨rfl, rfl⟩
    cases q with
    | true =>
     have hall2 : Hid (∀ y ∈ s.logs.take (k + 1), few30 y.es = true) := fun y hy => by
      rw [List.take_succ_eq_append_getElem (by omega), (List.getElem?_eq_some_iff.1 hx).2] at hy
      rcases List.mem_append.1 hy with hy | hy
      · exact hall.out y hy
      · rw [List.mem_singleton] at hy; rw [hy]; exact hq.out
     clear hx hq hfe
     go_wp2_with fail
     go_round
     case rel => exact ⟨k + 1, by omega, by go_num, hall2⟩
     case measure => simp [intOf]; omega
    | false =>
     have hf := Lib.hid (hfin.out false (by
      have : s.logs.all (fun x => few30 x.es) = false := List.all_eq_false.2 ⟨x, List.mem_of_getElem? hx, by rw [hq.out]; simp⟩
      unfold few30s; rw [this]; rfl))
     clear hx hq hfe
     go_wp2_with fail
     exact hf.out
  · obtain rfl : k = n := by omega
    have hA : s.logs.all (fun x => few30 x.es) = true := List.all_eq_true.2 fun e he => hall.out e (by rw [List.take_of_length_le (by omega)]; exact he)
    obtain ⟨q, hq⟩ : ∃ q, Hid (decide ((k : Int) ≤ 4) = q) := ⟨_, rfl⟩
    have hf := Lib.hid (hfin.out q (by unfold few30s; rw [hA, hlen, ← hq.out, Bool.true_and]; exact decide_eq_decide.2 (by omega)))
    have g1 := hq.out
    clear hA hall hq
    go_wp2_with fail
    exact hf.out
def fewL (s : St) (n : Nat) : Bool := few30s s && decide (n ≤ 70)

set_option maxRecDepth 20000 in
set_option maxHeartbeats 1000000 in
theorem few31_any (a : Option Addr) (n c : Nat) (s : St) (ra : Option Addr) (rn rc : Nat) (w : World) (H : SVr w a n c s) (hr : rn ≤ 9223372036854775807) :
 Calls Tryz.prog 9 #[.agg (liC s a n c ra rn rc).toArray] w (RetBo (fewL s rn) w) := by
 obtain ⟨sb, hsb⟩ : ∃ sb, Hid (w.heap.size = sb) := ⟨_, rfl⟩
 obtain ⟨W1, hW1⟩ : ∃ W1, Hid (w.alloc (.cells #[.int .i64 s.id, .int .i64 s.priv, .slice a n c, .slice ra rn rc] 27) = W1) := ⟨_, rfl⟩
 have hB1 : Hid (Blk W1 sb 27 (liC s a n c ra rn rc)) := by rw [← hW1.out, ← hsb.out]; exact Blk.new w _ (liC s a n c ra rn rc)
 have hb1 : Hid (Below w.heap.size w W1) := by rw [← hW1.out]; exact (Below.refl _ w).alloc (Nat.le_refl _) _
 have hfw := Lib.hid (few30s_any a n c s W1 (H.below hb1.out))
 clear H
 obtain ⟨X, hX⟩ : ∃ X, Hid (X = RetBo (fewL s rn) w) := ⟨_, rfl⟩
 have hfin : Hid (∀ b W, fewL s rn = b → Below w.heap.size w W → X (.returned (.bool b)) W) := fun b W hb h => by rw [hX.out, hb]; exact ⟨rfl, h⟩
 rw [← hX.out]
 clear hX
 unfold liC stC fewL at *
 obtain ⟨q, hq⟩ : ∃ q, Hid (few30s s = q) := ⟨_, rfl⟩
 rw [hq.out] at hfw hfin
 go_enter Tryz.func9, Tryz.ntmps9
 go_upto_region 1 with fail
 rw [hsb.out]
 generalize hWq : w.alloc _ = Wq
 obtain rfl : W1 = Wq := by rw [← hWq]; exact hW1.out.symm
 clear hWq hW1
 have c0 := hB1.out.at_ (i := 0) rfl
 have c1 := hB1.out.at_ (i := 1) rfl
 have c2 := hB1.out.at_ (i := 2) rfl
 cases q with
 | false =>
  go_wp2_with fail
  refine hfw.out.mono ?_
  rintro e w2 ⟨rfl, hb2⟩
  have hf := Lib.hid (hfin.out false w2 rfl (hb1.out.trans (hb2.mono hb1.out.size)))
  clear hfin hb1 hb2 hB1 c0 c1 c2
  go_wp2_with fail
  exact hf.out
 | true =>
  go_wp2_with fail
  refine hfw.out.mono ?_
  rintro e w2 ⟨rfl, hb2⟩
  obtain ⟨q2, hq2⟩ : ∃ q, Hid (decide ((rn : Int) ≤ 70) = q) := ⟨_, rfl⟩
  have hf := Lib.hid (hfin.out q2 w2 (by rw [← hq2.out, Bool.true_and]; exact decide_eq_decide.2 (by omega)) (hb1.out.trans (hb2.mono hb1.out.size)))
  have g1 := hq2.out
  have c3 := (hB1.out.below hb2 hB1.out.lt).at_ (i := 3) rfl
  clear hfin hb1 hb2 hB1 c0 c1 c2 hq2
  go_wp2_with fail
  exact hf.out
end Go.Proofs.YtnonfdcbnkdmcaaGreatDoor
namespace Go.Sto
theorem dig_ab : (entD 4 [97] == entD 4 [98]) = false := by kernel_rfl
def exR : List Rul := [⟨1, 1, 1⟩, ⟨2, 5, 1⟩]
structure Lex (s x t : St) (A B : Ent) : Prop where
 id : s.id = 0
 priv : s.priv = 5
 logs : s.logs = []
 da : A.data = [97]
 db : B.data = [98]
 put1 : putS s 3 4 [97] = (x, 1, 0)
 put2 : putS x 3 4 [98] = (t, 2, 0)
 bd0 : BdL 0 (ents s 0)
 bd3 : ∀ f, BdL 0 (ents t f)
 sh : shownL s [] 0 0 = ([], [], 0)
 sh0 : shownL t exR 0 3 = ([A, B], [A, B], 0)
 sh1 : shownL t exR 1 3 = ([A, B], [A], 0)
 sh2 : shownL t exR 2 3 = ([A, B], [forkE A, B], 0)
 hon : honestL t exR 0 3 = (true, 0)
 apt : apartL t exR 0 1 3 = (false, 0)
 bad1 : shownL t exR 512 0 = ([], [], 1)
 bad2 : shownL t exR 0 16 = ([], [], 1)
 chk : chkL t exR = 0
 chkb : chkL s [⟨0, 7, 0⟩] = 310
theorem lex_there : ∃ s x t A B, Lex s x t A B := by
 have hne := dig_ab
 obtain ⟨D, hD⟩ : ∃ D, entD 4 [97] = D := ⟨_, rfl⟩
 obtain ⟨E, hE⟩ : ∃ E, entD 4 [98] = E := ⟨_, rfl⟩
 rw [hD, hE] at hne
 have hne : D ≠ E := by simpa using hne
 have o0 : openE ⟨0, 5, []⟩ 3 = 0 := by decide
 have oz : openE ⟨0, 5, []⟩ 0 = 0 := by decide
 have k4 : kindB 4 = true := by decide
 have f1 : fineB [⟨4, D, [97], false⟩] = true := by
  have := putE_fine (l := []) (kind := 4) (data := [97]) (.inl rfl) (by decide) (by rw [hD]; simp) (by simp)
  unfold putE at this
  rw [hD] at this
  exact this
 have i1 : idxE E [⟨4, D, [97], false⟩] = 1 := by simp [idxE, hne]
 have f2 : fineB [⟨4, D, [97], false⟩, ⟨4, E, [98], false⟩] = true := by
  have := putE_fine (l := [⟨4, D, [97], false⟩]) (kind := 4) (data := [98]) (.inr f1) (by decide) (by rw [hE, i1]; simp) (by simp)
  unfold putE at this
  rw [hE] at this
  exact this
 have r1 : replS ⟨0, 5, []⟩ 3 [⟨4, D, [97], false⟩] = ⟨0, 5, [⟨3, [⟨4, D, [97], false⟩]⟩]⟩ := rfl
 have ox : openE ⟨0, 5, [⟨3, [⟨4, D, [97], false⟩]⟩]⟩ 3 = 0 := by
  rw [openE_iff, ← r1]
  exact ⟨replS_ok o0 f1, by decide⟩
 have r2 : replS ⟨0, 5, [⟨3, [⟨4, D, [97], false⟩]⟩]⟩ 3 [⟨4, D, [97], false⟩, ⟨4, E, [98], false⟩] = ⟨0, 5, [⟨3, [⟨4, D, [97], false⟩, ⟨4, E, [98], false⟩]⟩]⟩ := rfl
 have ct : chkS ⟨0, 5, [⟨3, [⟨4, D, [97], false⟩, ⟨4, E, [98], false⟩]⟩]⟩ = 0 := by rw [← r2]; exact replS_ok ox f2
 have ot : openE ⟨0, 5, [⟨3, [⟨4, D, [97], false⟩, ⟨4, E, [98], false⟩]⟩]⟩ 3 = 0 := by rw [openE_iff]; exact ⟨ct, by decide⟩
 have o16 : openE ⟨0, 5, [⟨3, [⟨4, D, [97], false⟩, ⟨4, E, [98], false⟩]⟩]⟩ 16 = 1 := by unfold openE; rw [if_pos ct]; rfl
 have cl : chkL ⟨0, 5, [⟨3, [⟨4, D, [97], false⟩, ⟨4, E, [98], false⟩]⟩]⟩ exR = 0 := by
  unfold chkL
  rw [if_pos ct]
  rfl
 have fe : fetchS ⟨0, 5, [⟨3, [⟨4, D, [97], false⟩, ⟨4, E, [98], false⟩]⟩]⟩ 3 1 = ([⟨4, D, [97], false⟩, ⟨4, E, [98], false⟩], 0) := by
  unfold fetchS
  rw [if_pos ot, if_pos (by show (1 : Int) ≤ 1 ∧ (1 : Int) ≤ ((2 : Nat) : Int) + 1; decide)]
  rfl
 have sh : ∀ d : Int, devB d = true → shownL ⟨0, 5, [⟨3, [⟨4, D, [97], false⟩, ⟨4, E, [98], false⟩]⟩]⟩ exR d 3 = ([⟨4, D, [97], false⟩, ⟨4, E, [98], false⟩], lies d exR [⟨4, D, [97], false⟩, ⟨4, E, [98], false⟩], 0) := fun d hd => by
  unfold shownL
  rw [if_pos cl, if_pos hd, fe, if_pos rfl]
 have s0 := sh 0 (by decide)
 have s1 := sh 1 (by decide)
 have s2 := sh 2 (by decide)
 have l0 : lies 0 exR [⟨4, D, [97], false⟩, ⟨4, E, [98], false⟩] = [⟨4, D, [97], false⟩, ⟨4, E, [98], false⟩] := rfl
 have l1 : lies 1 exR [⟨4, D, [97], false⟩, ⟨4, E, [98], false⟩] = [⟨4, D, [97], false⟩] := rfl
 have l2 : lies 2 exR [⟨4, D, [97], false⟩, ⟨4, E, [98], false⟩] = [forkE ⟨4, D, [97], false⟩, ⟨4, E, [98], false⟩] := rfl
 rw [l0] at s0; rw [l1] at s1; rw [l2] at s2
 refine ⟨⟨0, 5, []⟩, ⟨0, 5, [⟨3, [⟨4, D, [97], false⟩]⟩]⟩, ⟨0, 5, [⟨3, [⟨4, D, [97], false⟩, ⟨4, E, [98], false⟩]⟩]⟩, ⟨4, D, [97], false⟩, ⟨4, E, [98], false⟩, rfl, rfl, rfl, rfl, rfl, ?_, ?_, ?_, ?_, ?_, s0, s1, s2, ?_, ?_, ?_, ?_, cl, ?_⟩
 · unfold putS
   rw [if_pos o0, if_pos k4, hD]
   simp only [show ents ⟨0, 5, []⟩ 3 = [] from rfl, show idxE D [] = 0 from rfl]
   rw [if_neg (by simp), if_neg (by simp)]
   unfold putE
   rw [hD]
   rfl
 · unfold putS
   rw [if_pos ox, if_pos k4, hE, show ents ⟨0, 5, [⟨3, [⟨4, D, [97], false⟩]⟩]⟩ 3 = [⟨4, D, [97], false⟩] from rfl, i1]
   rw [if_neg (by simp), if_neg (by simp)]
   unfold putE
   rw [hE]
   rfl
 · exact ⟨by simp [ents, entsL], by simp [ents, entsL]⟩
 · intro f
   refine few_bd' ?_ f
   intro x hx
   rw [List.mem_singleton] at hx
   subst hx
   exact ⟨by simp, by intro e he; simp only [List.mem_cons, List.not_mem_nil, or_false] at he; rcases he with rfl | rfl <;> simp⟩
 · unfold shownL
   rw [if_pos (by decide), if_pos (by decide), if_pos (by decide)]
   rfl
 · unfold honestL
   rw [s0, sameL_self]
   rfl
 · unfold apartL
   rw [s0, s1]
   show (if (0 : Int) = 0 then (if (0 : Int) = 0 then (apartE _ _, (0 : Int)) else _) else _) = _
   rw [if_pos rfl, if_pos rfl]
   have := apartE_take [⟨4, D, [97], false⟩, ⟨4, E, [98], false⟩] 1
   rw [show List.take 1 [(⟨4, D, [97], false⟩ : Ent), ⟨4, E, [98], false⟩] = [⟨4, D, [97], false⟩] from rfl] at this
   rw [this]
 · unfold shownL
   rw [if_pos cl, if_neg (by decide)]
 · unfold shownL
   rw [if_pos cl, if_pos (by decide)]
   unfold fetchS
   rw [o16]
   rfl
 · decide
end Go.Sto
namespace Go.Proofs.YtnonfdcbnkdmcaaGreatDoor
open Go.RowKit Go.Mem Go.Shelf
open Go.Sto (Ent Lg St Rul forkE BdL wo)
def OwnU (w0 W : World) (v : Value) (l : List Rul) : Prop := W.ownsRow w0.heap.size 73 3 v l.length (l.map ruC).flatten
theorem ru_rows (l : List Rul) : RowsOf 3 (fun x r => r = ruC x) l (l.map ruC) := ⟨by rw [List.length_map], fun r hr => by obtain ⟨x, _, rfl⟩ := List.mem_map.1 hr; rfl, fun i e r he hr => by
 rw [List.getElem?_map, he] at hr
 exact (Option.some.inj hr).symm⟩
theorem OwnU.nil (w0 W : World) : OwnU w0 W (.slice none 0 0) [] := World.ownsRow_nil W _ _ _
theorem OwnU.below {w0 W W' : World} {v : Value} {l : List Rul} (h : OwnU w0 W v l) (hb : Below W.heap.size W W') : OwnU w0 W' v l :=
 h.kept (grown_of_below hb none) (by rcases h.2 with ⟨e, _⟩ | ⟨g, cap, cur, e, _⟩ <;> rw [e] <;> simp [Value.ownBlock])
theorem OwnU.base {w0 W : World} {v : Value} {l : List Rul} (h : OwnU w0 W v l) : ∀ r, v.ownBlock = some r → w0.heap.size ≤ r := fun r e => (World.ownsRow.lt h r e).1
end Go.Proofs.YtnonfdcbnkdmcaaGreatDoor
namespace Go.Proofs.YtnonfdcbnkdmcaaGreatDoor
open Go.RowKit Go.Mem Go.Shelf
open Go.Sto (Ent St Rul forkE BdL)
attribute [local go_sem] Oper.semAt_some

def ApX (w wL : World) (tb : Nat) (d1 d2 : Nat → List Nat) (c : Code) (pre : List Nat) (W : World) : Prop :=
 c = .ret ∧ (∃ x ∈ pre, d1 x ≠ d2 x) ∧ Blk W (tb + 1) 4 [.bool true] ∧ Blk W (tb + 1 + 1) 37 [.int .i64 0] ∧ Below w.heap.size w W ∧ wL.heap.size ≤ W.heap.size
def ApI (wL : World) (d1 d2 : Nat → List Nat) (pre : List Nat) (W : World) : Prop := (∀ x ∈ pre, d1 x = d2 x) ∧ Below wL.heap.size wL W
theorem apI_deaf (wL : World) (d1 d2 : Nat → List Nat) : Deaf wL.heap.size (ApI wL d1 d2) := (deaf_pure _ _).and (deaf_below (Nat.le_refl _) (Nat.le_refl _))
theorem apX_deaf (w wL : World) (tb : Nat) (h1 : tb + 1 + 1 < wL.heap.size) (h2 : w.heap.size ≤ tb) (d1 d2 : Nat → List Nat) (c : Code) : Deaf wL.heap.size (ApX w wL tb d1 d2 c) := by
 rintro s A C row ⟨hc, hx, h3, h4, h5, h6⟩ hg hr
 refine ⟨hc, hx, h3.grown hg (fun e => by have := hr _ e.symm; omega), h4.grown hg (fun e => by have := hr _ e.symm; omega), h5.grown hg h5.size (fun r e => by have := hr r e; omega), Nat.le_trans h6 hg.size⟩

set_option maxRecDepth 20000 in
set_option maxHeartbeats 4000000 in
theorem lapart_any (a : Option Addr) (n c : Nat) (s : St) (ra : Option Addr) (rn rc : Nat) (rs : List Rul) (dv dw f : Int) (w : World) (HT : Tabs w) (H : SV (fun _ => True) w a n c s) (HR : RuS w ra rn rc rs) (hbd : BdL 0 (Sto.ents s f)) :
 Calls Tryz.prog 17 #[.agg (liC s a n c ra rn rc).toArray, .int .i64 dv, .int .i64 dw, .int .i64 f] w (BIPost (Sto.apartL s rs dv dw f) w) := by
 have HT' := Lib.hid HT; have H' := Lib.hid H; have HR' := Lib.hid HR
 have hbd' := Lib.hid hbd
 clear HT H HR hbd
 obtain ⟨sb, hsb⟩ : ∃ sb, Hid (w.heap.size = sb) := ⟨_, rfl⟩
 obtain ⟨W1, hW1⟩ : ∃ W1, Hid (((w.alloc (.cells #[.int .i64 s.id, .int .i64 s.priv, .slice a n c, .slice ra rn rc] 27)).alloc (.cells #[.bool false] 4)).alloc (.cells #[.int .i64 0] 37) = W1) := ⟨_, rfl⟩
 have hB4 : Hid (Blk W1 sb 27 (liC s a n c ra rn rc)) := by rw [← hW1.out, ← hsb.out]; exact ((Blk.new w _ (liC s a n c ra rn rc)).alloc _).alloc _
 have hB8 : Hid (Blk W1 (sb + 1) 4 [.bool false]) := by
  rw [← hW1.out, ← hsb.out]
  have := (Blk.new (w.alloc (.cells #[.int .i64 s.id, .int .i64 s.priv, .slice a n c, .slice ra rn rc] 27)) 4 [.bool false]).alloc (.cells #[.int .i64 0] 37)
  rwa [World.size_alloc] at this
 have hB9 : Hid (Blk W1 (sb + 1 + 1) 37 [.int .i64 0]) := by
  rw [← hW1.out, ← hsb.out]
  have := Blk.new ((w.alloc (.cells #[.int .i64 s.id, .int .i64 s.priv, .slice a n c, .slice ra rn rc] 27)).alloc (.cells #[.bool false] 4)) 37 [.int .i64 0]
  rwa [World.size_alloc, World.size_alloc] at this
 have hb1 : Hid (Below w.heap.size w W1) := by rw [← hW1.out]; exact (((Below.refl _ w).alloc (Nat.le_refl _) _).alloc (by simp) _).alloc (by simp; omega) _
 have hc := Lib.hid (fun d W (hW : Below w.heap.size w W) => lshown_any a n c s ra rn rc rs d f W (HT'.out.below hW) (H'.out.below hW) (HR'.out.below hW) hbd'.out)
 have hsz := Lib.hid (fun d => Sto.shown_bd (rs := rs) (dev := d) hbd'.out)
 obtain ⟨X, hXX⟩ : ∃ X, Hid (X = BIPost (Sto.apartL s rs dv dw f) w) := ⟨_, rfl⟩
 rw [← hXX.out]
 unfold Sto.apartL at hXX
 have hc1 := Lib.hid (hc.out dv)
 have hc2 := Lib.hid (hc.out dw)
 have hz1 := Lib.hid (hsz.out dv)
 have hz2 := Lib.hid (hsz.out dw)
 clear hc hsz
 generalize Sto.shownL s rs dv f = p1 at hc1 hz1 hXX
 generalize Sto.shownL s rs dw f = p2 at hc2 hz2 hXX
 obtain ⟨T1, L1, q1⟩ := p1
 obtain ⟨T2, L2, q2⟩ := p2
 simp only at hc1 hc2 hz1 hz2 hXX
 have hLn1 : Hid (L1.length ≤ 78) := hz1.out.len
 have hLn2 : Hid (L2.length ≤ 78) := hz2.out.len
 clear hz1 hz2
 unfold liC at *
 refine callsIn_wide (n := 6).1 ?_
 refine callsIn_of_wp_marks Tryz.func17 rfl trivial ?_ rfl
 simp only [Tryz.ntmps17, List.size_toArray, List.length_cons, List.length_nil, Nat.reduceAdd, Nat.reduceSub, Array.replicate_succ, Array.replicate_zero, List.push_toArray, List.append_toArray, List.nil_append, List.cons_append]
 gi_upto_region 1 with fail
 rw [hsb.out]
 generalize hWq : (((w.alloc _).alloc _).alloc _) = Wq
 obtain rfl : W1 = Wq := by rw [← hWq]; exact hW1.out.symm
 clear hWq hW1
 have c0 := hB4.out.at_ (i := 0) rfl
 have c1 := hB4.out.at_ (i := 1) rfl
 have c2 := hB4.out.at_ (i := 2) rfl
 have c3 := hB4.out.at_ (i := 3) rfl
 gi_wp2_with fail
 refine ⟨trivial, (callsIn_wide.2 (hc1.out _ hb1.out)).mono ?_⟩
 rintro e w2 ⟨ta, tc, v, B, rfl, _, hown, _, _, _, hst⟩
 have hB4' := Lib.hid (hB4.out.below hst hB4.out.lt)
 have hB8' := Lib.hid (hB8.out.below hst hB8.out.lt)
 have hB9' := Lib.hid (hB9.out.below hst hB9.out.lt)
 have hb2 := Lib.hid (hb1.out.trans (hst.mono hb1.out.size))
 have hlt : sb + 1 + 1 < W1.heap.size := hB9.out.lt
 have e9 := hB9'.out.at_ (i := 0) rfl
 have f9 := hB9'.out.frozen 0
 have e8 := hB8'.out.at_ (i := 0) rfl
 have f8 := hB8'.out.frozen 0
 have hg3 : w2.grownBy (w2.setCell ⟨sb + 1 + 1, 0, none⟩ (.int .i64 q1)) (some (sb + 1 + 1)) := grown_set (World.grownBy.refl w2 _) (.inl rfl) _
 have hB4a := Lib.hid (hB4'.out.grown hg3 (fun e => by injection e with e; omega))
 have hB8a := Lib.hid (hB8'.out.grown hg3 (fun e => by injection e with e; omega))
 have hB9a := Lib.hid (hB9'.out.set 0 (.int .i64 q1))
 have hb3 := Lib.hid (hb2.out.setCell (p := ⟨sb + 1 + 1, 0, none⟩) (by show w.heap.size ≤ sb + 1 + 1; rw [hsb.out]; omega) (.int .i64 q1))
 have hown3 := Lib.hid (hown.grow hg3 hlt)
 clear hst hc1 hB4 hB8 hB9 hb1 c0 c1 c2 c3 hown
 by_cases h1 : q1 = 0
 · subst h1
   gi_upto_region 4 with fail
   generalize w2.setCell _ _ = W3 at *
   have c0 := hB4a.out.at_ (i := 0) rfl
   have c1 := hB4a.out.at_ (i := 1) rfl
   have c2 := hB4a.out.at_ (i := 2) rfl
   have c3 := hB4a.out.at_ (i := 3) rfl
   clear e8 e9 f8 f9 hB4' hB8' hB9'
   gi_wp2_with fail
   refine ⟨trivial, (callsIn_wide.2 (hc2.out _ hb3.out)).mono ?_⟩
   rintro e w4 ⟨tb, td, v4, B4, rfl, _, hown4, _, _, _, hst⟩
   have hB8' := Lib.hid (hB8a.out.below hst hB8a.out.lt)
   have hB9' := Lib.hid (hB9a.out.below hst hB9a.out.lt)
   have hb4 := Lib.hid (hb3.out.trans (hst.mono hb3.out.size))
   have hlt3 : sb + 1 + 1 < W3.heap.size := hB9a.out.lt
   have e9 := hB9'.out.at_ (i := 0) rfl
   have f9 := hB9'.out.frozen 0
   have e8 := hB8'.out.at_ (i := 0) rfl
   have f8 := hB8'.out.frozen 0
   have hg5 : w4.grownBy (w4.setCell ⟨sb + 1 + 1, 0, none⟩ (.int .i64 q2)) (some (sb + 1 + 1)) := grown_set (World.grownBy.refl w4 _) (.inl rfl) _
   have hB8b := Lib.hid (hB8'.out.grown hg5 (fun e => by injection e with e; omega))
   have hB9b := Lib.hid (hB9'.out.set 0 (.int .i64 q2))
   have hb5 := Lib.hid (hb4.out.setCell (p := ⟨sb + 1 + 1, 0, none⟩) (by show w.heap.size ≤ sb + 1 + 1; rw [hsb.out]; omega) (.int .i64 q2))
   have hx5 := Lib.hid ((hown3.out.kept hst).grow hg5 hlt)
   have hy5 := Lib.hid (hown4.grow hg5 hlt3)
   clear hst hc2 hB4a hB8a hB9a hb3 c0 c1 c2 c3 hown4 hown3
   by_cases h2 : q2 = 0
   · subst h2
     gi_upto_region 7 with fail
     generalize w4.setCell _ _ = W5 at *
     clear e8 e9 f8 f9 hB8' hB9'
     obtain ⟨va, vc, rfl, hE1⟩ := hx5.out.es (by have := hLn1.out; omega)
     obtain ⟨vb, vd, rfl, hE2⟩ := hy5.out.es (by have := hLn2.out; omega)
     gi_wp2_with fail
     refine ⟨trivial, (callsIn_wide.2 (both_any va vb L1.length vc L2.length vd _)).mono ?_⟩
     rintro e w6 ⟨rfl, rfl⟩
     gi_wp2_with fail
     -- RANGE
     generalize Value.agg #[.int .i64 s.id, .int .i64 s.priv, .slice a n c, .slice ra rn rc] = AG at *
     generalize Value.tuple #[.slice ta T1.length tc, .slice va L1.length vc, .int .i64 0] = TU1
     generalize Value.tuple #[.slice tb T2.length td, .slice vb L2.length vd, .int .i64 0] = TU2
     obtain ⟨g1, hg1⟩ : ∃ g, Hid (W5.heap.size = g) := ⟨_, rfl⟩
     obtain ⟨wL, hwL⟩ : ∃ W, Hid ((W5.alloc (.cells #[.slice va L1.length vc] 30)).alloc (.cells #[.slice vb L2.length vd] 30) = W) := ⟨_, rfl⟩
     have hal : Below W5.heap.size W5 wL := by rw [← hwL.out]; exact ((Below.refl _ W5).alloc (Nat.le_refl _) _).alloc (by simp) _
     have hq1 : Blk wL g1 30 [.slice va L1.length vc] := by rw [← hwL.out, ← hg1.out]; exact (Blk.new W5 _ _).alloc _
     have hq2 : Blk wL (g1 + 1) 30 [.slice vb L2.length vd] := by
      rw [← hwL.out, ← hg1.out]
      have := Blk.new (W5.alloc (.cells #[.slice va L1.length vc] 30)) 30 [.slice vb L2.length vd]
      rwa [World.size_alloc] at this
     rw [hwL.out, hg1.out]
     have hb6 := Lib.hid (hb5.out.trans (hal.mono hb5.out.size))
     have hB8 := Lib.hid (hB8b.out.below hal hB8b.out.lt)
     have hB9 := Lib.hid (hB9b.out.below hal hB9b.out.lt)
     obtain ⟨r1, hr1, hm1⟩ := (hE1.below hal).rowF
     obtain ⟨r2, hr2, hm2⟩ := (hE2.below hal).rowF
     have hle1 : ∀ k, (r1 k).length = 35 := fun k => by obtain ⟨ok, a, n, c, e⟩ := hr1 k; rw [e]; exact entC_length ok.dig a n c
     have hle2 : ∀ k, (r2 k).length = 35 := fun k => by obtain ⟨ok, a, n, c, e⟩ := hr2 k; rw [e]; exact entC_length ok.dig a n c
     have hon1 : ∀ k, ∀ u ∈ r1 k, u.oneCell' = true := fun k => by obtain ⟨ok, a, n, c, e⟩ := hr1 k; rw [e]; exact entC_one _ _ _ _
     have hon2 : ∀ k, ∀ u ∈ r2 k, u.oneCell' = true := fun k => by obtain ⟨ok, a, n, c, e⟩ := hr2 k; rw [e]; exact entC_one _ _ _ _
     have hls : sb + 1 + 1 < wL.heap.size := hB9.out.lt
     have hfin : Hid (∀ W r, Below w.heap.size w W → Sto.apartE L1 L2 = r → X (.returned (.tuple #[.bool r, .int .i64 0])) W) := fun W r h e => by
      rw [hXX.out, if_pos trivial, if_pos trivial, ← e]
      exact ⟨rfl, h⟩
     have hno := Lib.hid (@Sto.apartE_none L1 L2)
     have hso := Lib.hid (@Sto.apartE_some L1 L2)
     have hn1 := hLn1.out
     have hn2 := hLn2.out
     have hsw : w.heap.size ≤ sb := by rw [hsb.out]; exact Nat.le_refl _
     clear hXX hwL hal hE1 hE2 hx5 hy5 hb5 hB8b hB9b hg1
     have hseq : SeqOwn Fence.wide 5 Tryz.prog 97 #[.pointer (some ⟨g1, 0, none⟩), .pointer (some ⟨g1 + 1, 0, none⟩)] (encB r1 r2) (fun xs => xs = List.range (min L1.length L2.length)) (fun pre => pre <+: List.range (min L1.length L2.length)) (min L1.length L2.length) wL :=
      fun l J Jx W hW hl0 hl1 hJ hY h0 => bothIter_in l g1 (g1 + 1) L1.length vc L2.length vd va vb r1 r2 J Jx wL W hm1 hm2 hle1 hle2 (by omega) (by omega) (hq1.at_ (i := 0) rfl) (hq2.at_ (i := 0) rfl) hq1.lt hq2.lt hW hJ hl0 hY h0
     refine wpIn_range_own rfl (by omega) (gf := 97) (lb := #[.pointer (some ⟨g1, 0, none⟩), .pointer (some ⟨g1 + 1, 0, none⟩)]) rfl trivial (enters_of Tryz.func97 (by kernel_rfl) rfl)
      hseq (fun _ => rfl) (ApI wL (fun k => (Sto.atE L1 k).dig) (fun k => (Sto.atE L2 k).dig)) (ApX w wL sb (fun k => (Sto.atE L1 k).dig) (fun k => (Sto.atE L2 k).dig)) (apI_deaf _ _ _) (fun c => apX_deaf _ _ _ hls hsw _ _ c) ⟨(fun _ h => by cases h), Below.refl _ _⟩
      (fun x a' W => ∃ p q, a' = { tmps := #[AG, .int .i64 dv, .int .i64 dw, .int .i64 f, .pointer (some ⟨sb, 0, none⟩), undef, undef, undef, .pointer (some ⟨sb + 1, 0, none⟩), .pointer (some ⟨sb + 1 + 1, 0, none⟩), .slice ta T1.length tc, .slice va L1.length vc, .slice tb T2.length td, .slice vb L2.length vd, .pointer (some ⟨p, 0, none⟩), .pointer (some ⟨q, 0, none⟩), TU1, AG, .int .i64 dv, .int .i64 f, TU1, .slice ta T1.length tc, .slice va L1.length vc, .int .i64 0, .int .i64 0, .bool false, undef, TU2, AG, .int .i64 dw, .int .i64 f, TU2, .slice tb T2.length td, .slice vb L2.length vd, .int .i64 0, .int .i64 0, .bool false, undef, .slice va L1.length vc, .slice vb L2.length vd, .func (.func 97) #[] #[.pointer (some ⟨g1, 0, none⟩), .pointer (some ⟨g1 + 1, 0, none⟩)], .agg (r1 x).toArray, .agg (r2 x).toArray, undef, undef, undef, undef, undef], defers := [] } ∧ Blk W p 75 (r1 x) ∧ Blk W q 75 (r2 x))
      (fun x a' A C l rc hx hl hg => by
        obtain ⟨p, q, e, hp, hq⟩ := hx
        exact ⟨p, q, e, hp.grown hg (fun e => by cases e; rw [show A.heap[_]? = _ from hp] at hl; cases hl), hq.grown hg (fun e => by cases e; rw [show A.heap[_]? = _ from hq] at hl; cases hl)⟩) ?assign ?body ?done ?stop
     case assign =>
      rintro l pre x A K hI hK
      obtain ⟨W7, hP⟩ := put_row (ty := 75) (Blk.new A 75 (entC ⟨0, List.replicate 32 0, [], false⟩ none 0 0)) (x := r1 x) (by rw [hle1]; rfl) (by rw [hle1]; exact sizeE) (hon1 x)
      have hgw : A.grownBy W7 none := ⟨hP.grown.os, hP.grown.tape, hP.grown.output, Nat.le_trans (by simp) hP.grown.size, fun q hq _ => (hP.grown.block q (by simp; omega) (fun e => by cases e; omega)).trans (Below.heap_alloc A _ q hq)⟩
      obtain ⟨W8, hP2⟩ := put_row (ty := 75) (Blk.new W7 75 (entC ⟨0, List.replicate 32 0, [], false⟩ none 0 0)) (x := r2 x) (by rw [hle2]; rfl) (by rw [hle2]; exact sizeE) (hon2 x)
      have hgw2 : W7.grownBy W8 none := ⟨hP2.grown.os, hP2.grown.tape, hP2.grown.output, Nat.le_trans (by simp) hP2.grown.size, fun q hq _ => (hP2.grown.block q (by simp; omega) (fun e => by cases e; omega)).trans (Below.heap_alloc W7 _ q hq)⟩
      have hgw3 : A.grownBy W8 none := ⟨hgw2.os.trans hgw.os, hgw2.tape.trans hgw.tape, hgw2.output.trans hgw.output, Nat.le_trans hgw.size hgw2.size, fun q hq hn => (hgw2.block q (Nat.lt_of_lt_of_le hq hgw.size) hn).trans (hgw.block q hq hn)⟩
      have hfin := Lib.hid (fun a' h => hK a' W8 hgw3 ⟨A.heap.size, W7.heap.size, h, hP.blk.grown hgw2 (by simp), hP2.blk⟩)
      have hP' := Lib.hid hP
      have hP2' := Lib.hid hP2
      clear hP hP2 hK hgw hgw2 hgw3
      unfold encB
      gi_wp2_with (first
       | (refine wpListIn_store_mid (by rfl) 75 _ _ (by rfl) A.heap.size 0 (r1 x).toArray (by rfl) (by rfl) hP'.out.there hP'.out.info (by simpa using hP'.out.one) ?_
          generalize hWq : World.setCells _ _ _ _ = Wa
          obtain rfl : W7 = Wa := by rw [← hWq]; exact hP'.out.eq
          clear hWq)
           | (refine wpListIn_store_mid (by rfl) 75 _ _ (by rfl) W7.heap.size 0 (r2 x).toArray (by rfl) (by rfl) hP2'.out.there hP2'.out.info (by simpa using hP2'.out.one) ?_
              generalize hWq : World.setCells _ _ _ _ = Wa
              obtain rfl : W8 = Wa := by rw [← hWq]; exact hP2'.out.eq
              clear hWq))
      exact hfin.out _ rfl
     case body =>
      rintro l pre x a' A hA hI ⟨p, q, rfl, hp, hq⟩ hlen
      obtain ⟨ok1, a1, m1, k1, er1⟩ := hr1 x
      obtain ⟨ok2, a2, m2, k2, er2⟩ := hr2 x
      rw [er1] at hp
      rw [er2] at hq
      have hx1 : Hid (A.rangeAt p 1 (bv (Sto.atE L1 x).dig)) := rangeAt_dig hp ok1
      have hx2 : Hid (A.rangeAt q 1 (bv (Sto.atE L2 x).dig)) := rangeAt_dig hq ok2
      have hi1 : Hid ((Tryz.prog.info? 32).map (·.size) = some (bv (Sto.atE L1 x).dig).length) := by show _ = _; rw [bv_length, ok1.dig]; exact size35
      have hi2 : Hid ((Tryz.prog.info? 32).map (·.size) = some (bv (Sto.atE L2 x).dig).length) := by show _ = _; rw [bv_length, ok2.dig]; exact size35
      have heq := fun W => eq_dig (x := (Sto.atE L1 x).dig) (y := (Sto.atE L2 x).dig) ⟨ok1.dig, ok1.lt⟩ ⟨ok2.dig, ok2.lt⟩ W
      have hu := Tryz.underlying32
      by_cases hx : (Sto.atE L1 x).dig = (Sto.atE L2 x).dig
      · have hfin : Hid (A.grownBy A none ∧ ApI wL (fun k => (Sto.atE L1 k).dig) (fun k => (Sto.atE L2 k).dig) (pre ++ [x]) A) := ⟨World.grownBy.refl A none, (fun y hy => by
         rcases List.mem_append.1 hy with hy | hy
         · exact hI.1 y hy
         · rw [List.mem_singleton] at hy; rw [hy]; exact hx), hI.2⟩
        rw [decide_eq_true hx] at heq
        clear hx hp hq hI hseq er1 er2 ok1 ok2 hm1 hm2 hr1 hr2 hle1 hle2 hon1 hon2 hno hso
        generalize bv (Sto.atE L1 x).dig = D1 at *
        generalize bv (Sto.atE L2 x).dig = D2 at *
        gi_wp2_with (first
         | (refine wpListIn_load_mid (by rfl) 32 (.tmp 43) (by rfl) p 1 (by rfl) D1 _ hx1.out hu (by rfl) hi1.out ?_)
          | (refine wpListIn_load_mid (by rfl) 32 (.tmp 45) (by rfl) q 1 (by rfl) D2 _ hx2.out hu (by rfl) hi2.out ?_))
        exact hfin.out
      · have hBr := hB8.out.below hI.2 hB8.out.lt
        have hBe := hB9.out.below hI.2 hB9.out.lt
        have cr := hBr.at_ (i := 0) rfl
        have cf := hBr.frozen 0
        have ce := hBe.at_ (i := 0) rfl
        have cg := hBe.frozen 0
        have hfin : Hid (roundLeft wL.heap.size (ApI wL (fun k => (Sto.atE L1 k).dig) (fun k => (Sto.atE L2 k).dig)) (ApX w wL sb (fun k => (Sto.atE L1 k).dig) (fun k => (Sto.atE L2 k).dig)) (pre ++ [x]) A .ret { tmps := #[], defers := [] } ((A.setCell ⟨sb + 1, 0, none⟩ (.bool true)).setCell ⟨sb + 1 + 1, 0, none⟩ (.int .i64 0))) := by
         have g1 : A.grownBy (A.setCell ⟨sb + 1, 0, none⟩ (.bool true)) (some (sb + 1)) := grown_set (World.grownBy.refl A _) (.inl rfl) _
         have g2 : (A.setCell ⟨sb + 1, 0, none⟩ (.bool true)).grownBy ((A.setCell ⟨sb + 1, 0, none⟩ (.bool true)).setCell ⟨sb + 1 + 1, 0, none⟩ (.int .i64 0)) (some (sb + 1 + 1)) := grown_set (World.grownBy.refl _ _) (.inl rfl) _
         have hb7 := hb6.out.trans (hI.2.mono hb6.out.size)
         have hk1 : KeepsFrom wL.heap.size A (A.setCell ⟨sb + 1, 0, none⟩ (.bool true)) := KeepsFrom.of_grownBy g1 (fun j e => by cases e; omega)
         have hk2 : KeepsFrom wL.heap.size (A.setCell ⟨sb + 1, 0, none⟩ (.bool true)) ((A.setCell ⟨sb + 1, 0, none⟩ (.bool true)).setCell ⟨sb + 1 + 1, 0, none⟩ (.int .i64 0)) := KeepsFrom.of_grownBy g2 (fun j e => by cases e; omega)
         refine ⟨hk1.trans hk2, rfl, ⟨x, by simp, hx⟩, (hBr.set 0 _).grown g2 (fun e => by injection e with e; omega), (hBe.grown g1 (fun e => by injection e with e; omega)).set 0 _, ?_, ?_⟩
         · exact (hb7.setCell (p := ⟨sb + 1, 0, none⟩) (by show w.heap.size ≤ sb + 1; omega) _).setCell (p := ⟨sb + 1 + 1, 0, none⟩) (by show w.heap.size ≤ sb + 1 + 1; omega) _
         · exact Nat.le_trans hI.2.size (Nat.le_trans g1.size g2.size)
        rw [decide_eq_false hx] at heq
        clear hx hp hq hI hseq er1 er2 ok1 ok2 hm1 hm2 hr1 hr2 hle1 hle2 hon1 hon2 hno hso hBr hBe
        generalize bv (Sto.atE L1 x).dig = D1 at *
        generalize bv (Sto.atE L2 x).dig = D2 at *
        gi_wp2_with (first
         | (refine wpListIn_load_mid (by rfl) 32 (.tmp 43) (by rfl) p 1 (by rfl) D1 _ hx1.out hu (by rfl) hi1.out ?_)
          | (refine wpListIn_load_mid (by rfl) 32 (.tmp 45) (by rfl) q 1 (by rfl) D2 _ hx2.out hu (by rfl) hi2.out ?_))
        exact hfin.out
     case done =>
      rintro D xs W hD rfl ⟨hne, hB⟩ hK
      have hres := hno.out fun k hk => hne k (List.mem_range.2 hk)
      have hBr := hB8.out.below hB hB8.out.lt
      have hBe := hB9.out.below hB hB9.out.lt
      have cr := hBr.at_ (i := 0) rfl
      have cf := hBr.frozen 0
      have ce := hBe.at_ (i := 0) rfl
      have cg := hBe.frozen 0
      have g1 : W.grownBy (W.setCell ⟨sb + 1, 0, none⟩ (.bool false)) (some (sb + 1)) := grown_set (World.grownBy.refl W _) (.inl rfl) _
      have g2 : (W.setCell ⟨sb + 1, 0, none⟩ (.bool false)).grownBy ((W.setCell ⟨sb + 1, 0, none⟩ (.bool false)).setCell ⟨sb + 1 + 1, 0, none⟩ (.int .i64 0)) (some (sb + 1 + 1)) := grown_set (World.grownBy.refl _ _) (.inl rfl) _
      have z8 := (hBr.set 0 (.bool false)).grown g2 (fun e => by injection e with e; omega)
      have z9 := (hBe.grown g1 (fun e => by injection e with e; omega)).set 0 (.int .i64 0)
      have hb7 := ((hb6.out.trans (hB.mono hb6.out.size)).setCell (p := ⟨sb + 1, 0, none⟩) (by show w.heap.size ≤ sb + 1; omega) (.bool false)).setCell (p := ⟨sb + 1 + 1, 0, none⟩) (by show w.heap.size ≤ sb + 1 + 1; omega) (.int .i64 0)
      have hK' : ((W.setCell ⟨sb + 1, 0, none⟩ (.bool false)).setCell ⟨sb + 1 + 1, 0, none⟩ (.int .i64 0)).heap[D]? = some (.deferred (some [])) := (Below.heap_setCell _ ⟨sb + 1 + 1, 0, none⟩ _ _ (by show D ≠ sb + 1 + 1; omega)).trans ((Below.heap_setCell W ⟨sb + 1, 0, none⟩ _ _ (by show D ≠ sb + 1; omega)).trans hK)
      clear hne hno hso hseq hm1 hm2 hr1 hr2 hle1 hle2 hon1 hon2 hB hBr hBe
      gi_wp2_with fail
      generalize (W.setCell _ _).setCell _ _ = V at *
      have hVD : D < V.heap.size := (Array.getElem?_eq_some_iff.1 hK').1
      have y8 := z8.grown (grownBy_putObj' V D (.deferred none)) (fun e => by cases e; omega)
      have y9 := z9.grown (grownBy_putObj' V D (.deferred none)) (fun e => by cases e; omega)
      have e8 := y8.at_ (i := 0) rfl
      have e9 := y9.at_ (i := 0) rfl
      have hbf : Below w.heap.size w (V.putObj D (.deferred none)) := hb7.grown (grownBy_putObj' V D _) hb7.size (fun k e => by cases e; omega)
      refine ⟨by simp, .inl ⟨_, _, rfl, run_takeDeferred hK', .tuple #[.bool false, .int .i64 0], ?_, hfin.out _ false hbf hres⟩⟩
      simp [results, Tryz.f17, go_sem, e8, e9]
     case stop =>
      rintro D c pre W hD hp ⟨rfl, ⟨x, hx, hne⟩, hB8', hB9', hb7, hsz⟩ hK
      have hres := hso.out x (List.mem_range.1 (hp.subset hx)) hne
      have y8 := hB8'.grown (grownBy_putObj' W D (.deferred none)) (fun e => by cases e; omega)
      have y9 := hB9'.grown (grownBy_putObj' W D (.deferred none)) (fun e => by cases e; omega)
      have e8 := y8.at_ (i := 0) rfl
      have e9 := y9.at_ (i := 0) rfl
      have hbf : Below w.heap.size w (W.putObj D (.deferred none)) := hb7.grown (grownBy_putObj' W D _) hb7.size (fun k e => by cases e; omega)
      clear hno hso hseq hm1 hm2 hr1 hr2 hle1 hle2 hon1 hon2
      gi_wp2_with fail
      refine ⟨by simp, .inl ⟨_, _, rfl, run_takeDeferred hK, .tuple #[.bool true, .int .i64 0], ?_, hfin.out _ true hbf hres⟩⟩
      simp [results, Tryz.f17, go_sem, e8, e9]
   · have hfin : Hid (∀ W, Below w.heap.size w W → X (.returned (.tuple #[.bool false, .int .i64 q2])) W) := fun W h => by
      rw [hXX.out, if_pos trivial, if_neg h2]
      exact ⟨rfl, h⟩
     clear hXX
     gi_upto_region 6 with fail
     generalize w4.setCell _ _ = W5 at *
     have x9 := hB9b.out.at_ (i := 0) rfl
     have y9 := hB9b.out.frozen 0
     have x8 := hB8b.out.at_ (i := 0) rfl
     have y8 := hB8b.out.frozen 0
     clear e8 e9 f8 f9 hB8' hB9'
     gi_region
     gi_wp2_with fail
     have g1 : W5.grownBy (W5.setCell ⟨sb + 1, 0, none⟩ (.bool false)) (some (sb + 1)) := grown_set (World.grownBy.refl W5 _) (.inl rfl) _
     have g2 : (W5.setCell ⟨sb + 1, 0, none⟩ (.bool false)).grownBy ((W5.setCell ⟨sb + 1, 0, none⟩ (.bool false)).setCell ⟨sb + 1 + 1, 0, none⟩ (.int .i64 q2)) (some (sb + 1 + 1)) := grown_set (World.grownBy.refl _ _) (.inl rfl) _
     have z8 := ((hB8b.out.set 0 (.bool false)).grown g2 (fun e => by injection e with e; omega)).below ((Below.refl _ _).drew) (Nat.lt_of_lt_of_le (Nat.lt_of_lt_of_le hB8b.out.lt g1.size) g2.size)
     have z9 := ((hB9b.out.grown g1 (fun e => by injection e with e; omega)).set 0 (.int .i64 q2)).below ((Below.refl _ _).drew) (Nat.lt_of_lt_of_le (Nat.lt_of_lt_of_le hB9b.out.lt g1.size) g2.size)
     have e8 := z8.at_ (i := 0) rfl
     have e9 := z9.at_ (i := 0) rfl
     have hsw : w.heap.size ≤ sb := by rw [hsb.out]; exact Nat.le_refl _
     have hb7 := ((hb5.out.setCell (p := ⟨sb + 1, 0, none⟩) (by show w.heap.size ≤ sb + 1; omega) (.bool false)).setCell (p := ⟨sb + 1 + 1, 0, none⟩) (by show w.heap.size ≤ sb + 1 + 1; omega) (.int .i64 q2)).drew
     refine ⟨.tuple #[.bool false, .int .i64 q2], ?_, hfin.out _ hb7⟩
     simp [results, Tryz.f17, go_sem, e8, e9]
 · have hfin : Hid (∀ W, Below w.heap.size w W → X (.returned (.tuple #[.bool false, .int .i64 q1])) W) := fun W h => by
    rw [hXX.out, if_neg h1]
    exact ⟨rfl, h⟩
   clear hXX
   gi_upto_region 3 with fail
   generalize w2.setCell _ _ = W3 at *
   have x9 := hB9a.out.at_ (i := 0) rfl
   have y9 := hB9a.out.frozen 0
   have x8 := hB8a.out.at_ (i := 0) rfl
   have y8 := hB8a.out.frozen 0
   clear e8 e9 f8 f9 hB8' hB9'
   gi_region
   gi_wp2_with fail
   have g1 : W3.grownBy (W3.setCell ⟨sb + 1, 0, none⟩ (.bool false)) (some (sb + 1)) := grown_set (World.grownBy.refl W3 _) (.inl rfl) _
   have g2 : (W3.setCell ⟨sb + 1, 0, none⟩ (.bool false)).grownBy ((W3.setCell ⟨sb + 1, 0, none⟩ (.bool false)).setCell ⟨sb + 1 + 1, 0, none⟩ (.int .i64 q1)) (some (sb + 1 + 1)) := grown_set (World.grownBy.refl _ _) (.inl rfl) _
   have z8 := ((hB8a.out.set 0 (.bool false)).grown g2 (fun e => by injection e with e; omega)).below ((Below.refl _ _).drew) (Nat.lt_of_lt_of_le (Nat.lt_of_lt_of_le hB8a.out.lt g1.size) g2.size)
   have z9 := ((hB9a.out.grown g1 (fun e => by injection e with e; omega)).set 0 (.int .i64 q1)).below ((Below.refl _ _).drew) (Nat.lt_of_lt_of_le (Nat.lt_of_lt_of_le hB9a.out.lt g1.size) g2.size)
   have e8 := z8.at_ (i := 0) rfl
   have e9 := z9.at_ (i := 0) rfl
   have hsw : w.heap.size ≤ sb := by rw [hsb.out]; exact Nat.le_refl _
   have hb7 := ((hb3.out.setCell (p := ⟨sb + 1, 0, none⟩) (by show w.heap.size ≤ sb + 1; omega) (.bool false)).setCell (p := ⟨sb + 1 + 1, 0, none⟩) (by show w.heap.size ≤ sb + 1 + 1; omega) (.int .i64 q1)).drew
   refine ⟨.tuple #[.bool false, .int .i64 q1], ?_, hfin.out _ hb7⟩
   simp [results, Tryz.f17, go_sem, e8, e9]
end Go.Proofs.YtnonfdcbnkdmcaaGreatDoor
namespace Go.Proofs.YtnonfdcbnkdmcaaGreatDoor
open Go.RowKit Go.Mem Go.Shelf
open Go.Sto (Ent St Rul forkE BdL Lex exR)

theorem showH_len (s : St) (rs : List Rul) (dev f : Int) : (showH s rs dev f).length = 37 := by
 unfold showH
 split
 · exact signHd_len _ _ _ _
 · exact zeroHd_len
theorem showH_one (s : St) (rs : List Rul) (dev f : Int) : ∀ u ∈ showH s rs dev f, u.oneCell' = true := by
 unfold showH
 split
 · exact headC_one _ _ _ _ _ _
 · exact headC_one _ _ _ _ _ _
theorem showL_of {s : St} {rs : List Rul} {dev f q : Int} {T L : List Ent} (h : Sto.shownL s rs dev f = (T, L, q)) (hq : q = 0 ∨ L = []) : Sto.showL s rs dev f = (L, q) := by
 unfold Sto.showL
 rw [h]
 rcases hq with rfl | rfl
 · rfl
 · show (if q = 0 then _ else _) = _
   split
   · rename_i h; rw [h]
   · rfl
theorem show_at {s : St} {rs : List Rul} {dev f q : Int} {T L : List Ent} (h : Sto.shownL s rs dev f = (T, L, q)) (hq : q = 0 ∨ L = []) (hl : L.length ≤ 100) (hf : I64 f) {a ra : Option Addr} {n c rn rc : Nat} {w : World} (HT : Tabs w) (H : SV (fun _ => True) w a n c s) (HR : RuS w ra rn rc rs) (hbd : BdL 0 (Sto.ents s f)) :
 Calls Tryz.prog 10 #[.agg #[.int .i64 s.id, .int .i64 s.priv, .slice a n c, .slice ra rn rc], .int .i64 dev, .int .i64 f] w (fun e w' => ∃ va vc, e = .returned (.tuple #[.slice va L.length vc, .agg (showH s rs dev f).toArray, .int .i64 q]) ∧ ES (fun b => w.heap.size ≤ b) w' va L.length vc L ∧ Below w.heap.size w w') := by
 have h1 := lshow_any a n c s ra rn rc rs dev f hf w HT H HR hbd
 rw [showL_of h hq] at h1
 refine h1.mono ?_
 rintro e w' ⟨v, rfl, ho, hb⟩
 obtain ⟨rows, h2, h3⟩ := ho
 obtain ⟨va, vc, rfl, hR, hs⟩ := Sl.of_owns h2
 exact ⟨va, vc, rfl, ⟨⟨rfl, fun _ ad e => (hs ad e).1, rows, hR, h3.imp fun _ _ h => h.imp fun b _ k => k.1⟩, by omega⟩, hb⟩
theorem honest_at {s : St} {rs : List Rul} {dev f : Int} {p : Bool × Int} (h : Sto.honestL s rs dev f = p) {a ra : Option Addr} {n c rn rc : Nat} {w : World} (HT : Tabs w) (H : SV (fun _ => True) w a n c s) (HR : RuS w ra rn rc rs) (hbd : BdL 0 (Sto.ents s f)) :
 Calls Tryz.prog 15 #[.agg #[.int .i64 s.id, .int .i64 s.priv, .slice a n c, .slice ra rn rc], .int .i64 dev, .int .i64 f] w (BIPost p w) := by
 rw [← h]; exact lhonest_any a n c s ra rn rc rs dev f w HT H HR hbd
theorem apart_at {s : St} {rs : List Rul} {d1 d2 f : Int} {p : Bool × Int} (h : Sto.apartL s rs d1 d2 f = p) {a ra : Option Addr} {n c rn rc : Nat} {w : World} (HT : Tabs w) (H : SV (fun _ => True) w a n c s) (HR : RuS w ra rn rc rs) (hbd : BdL 0 (Sto.ents s f)) :
 Calls Tryz.prog 17 #[.agg #[.int .i64 s.id, .int .i64 s.priv, .slice a n c, .slice ra rn rc], .int .i64 d1, .int .i64 d2, .int .i64 f] w (BIPost p w) := by
 rw [← h]; exact lapart_any a n c s ra rn rc rs d1 d2 f w HT H HR hbd
theorem check_at {s : St} {rs : List Rul} {q : Int} (h : Sto.chkL s rs = q) {a ra : Option Addr} {n c rn rc : Nat} {w : World} (HT : Tabs w) (H : SV (fun _ => True) w a n c s) (HR : RuS w ra rn rc rs) :
 Calls Tryz.prog 12 #[.agg #[.int .i64 s.id, .int .i64 s.priv, .slice a n c, .slice ra rn rc]] w (RetI q w) := by
 rw [← h]; exact liCheck_any a n c s ra rn rc rs w HT H HR
theorem lex_new (s : St) (h0 : s.id = 0) (h5 : s.priv = 5) (w : World) : Calls Tryz.prog 34 #[.int .i64 0, .int .i64 5] w (fun e w' => e = .returned (.tuple #[.agg #[.int .i64 s.id, .int .i64 s.priv, .slice none 0 0], .int .i64 0]) ∧ Below w.heap.size w w') := by
 have h := New_any 0 5 w
 have e : Sto.newE 0 5 = 0 := by decide
 unfold NewPost at h
 rw [e, if_pos rfl, ← h0, ← h5] at h
 rw [h0, h5] at h ⊢
 exact h
theorem lex_sv {s x t : St} {A B : Ent} (h : Lex s x t A B) (w : World) : SV (fun _ => True) w none 0 0 s := by
 refine ⟨?_, ?_, ?_⟩
 · rw [h.logs]; exact LS.nil0 _ _
 · rw [h.id]; exact ⟨by decide, by decide⟩
 · rw [h.priv]; exact ⟨by decide, by decide⟩
theorem lex_put {W : World} {a : Option Addr} {n c : Nat} {s x : St} {f kind no q : Int} {data : List Nat} {da : Option Addr} {dn dc : Nat} (h : Sto.putS s f kind data = (x, no, q)) (hf : I64 f) (hk : I64 kind) (HT : Tabs W) (H : SV (fun _ => True) W a n c s) (HD : BS W da dn dc data) (hdn : dn ≤ 1000000 := by decide) :
 Calls Tryz.prog 35 #[.agg #[.int .i64 s.id, .int .i64 s.priv, .slice a n c], .int .i64 f, .int .i64 kind, .slice da dn dc] W (PuttPost x no q W) := by
 have h' := Put_any a n c s f kind hf hk da dn dc data W HT H (bw_of HD) hdn
 rw [h] at h'
 exact h'
theorem lconv (u : Nat) (W : World) : (convert 71 71 (.slice (some ⟨W.heap.size, 0, none⟩) 1 1)).run Tryz.prog (W.alloc (.cells #[.int .u8 (u : Int)] 5)) = .ok (.slice (some ⟨W.heap.size, 0, none⟩) 1 1) (W.alloc (.cells #[.int .u8 (u : Int)] 5 (1, 2))) :=
 Lib.run_convert_bytes_const (P := Tryz.prog) W 71 5 #[.int .u8 (u : Int)] 1 1 Tryz.underlying71 Tryz.underlying5
theorem lbs (u : Nat) (hu : u < 256) (W : World) : BS (W.alloc (.cells #[.int .u8 (u : Int)] 5 (1, 2))) (some ⟨W.heap.size, 0, none⟩) 1 1 [u] := by
 refine ⟨rfl, Nat.le_refl _, by decide, (fun h => by cases h), fun ad h => ?_, fun x hx => ?_⟩
 · cases h
   have hg : (W.alloc (.cells #[.int .u8 (u : Int)] 5 (1, 2))).heap[W.heap.size]? = some (.cells #[.int .u8 (u : Int)] 5 (1, 2)) := by show (W.heap.push _)[W.heap.size]? = _; simp
   refine ⟨W.heap.size, 0, rfl, (Array.getElem?_eq_some_iff.1 hg).1, fun i x hx => ?_⟩
   cases i with
   | zero =>
    simp only [List.getElem?_cons_zero, Option.some.injEq] at hx
    subst hx
    simp only [World.cell?, hg]
    rfl
   | succ i => simp at hx
 · simp only [List.mem_cons, List.not_mem_nil, or_false] at hx
   omega
theorem sizeSt3 : (Tryz.prog.info? 24).map (·.size) = some 3 := by kernel_rfl
theorem sizeLi : (Tryz.prog.info? 27).map (·.size) = some 4 := by kernel_rfl
theorem st_one (i p : Int) (a : Option Addr) (n c : Nat) : ∀ u ∈ ([.int .i64 i, .int .i64 p, .slice a n c] : List Value), u.oneCell' = true := by
 intro u hu
 simp only [List.mem_cons, List.not_mem_nil, or_false] at hu
 rcases hu with rfl | rfl | rfl <;> rfl
theorem li_one (i p : Int) (a : Option Addr) (n c : Nat) (b : Option Addr) (m d : Nat) : ∀ u ∈ ([.int .i64 i, .int .i64 p, .slice a n c, .slice b m d] : List Value), u.oneCell' = true := by
 intro u hu
 simp only [List.mem_cons, List.not_mem_nil, or_false] at hu
 rcases hu with rfl | rfl | rfl | rfl <;> rfl
theorem rus_made (W : World) (l : List Rul) (n : Nat) (hn : l.length = n) (h0 : 0 < n) (hm : n ≤ 1000) : RuS (W.alloc (.cells (l.map ruC).flatten.toArray 73)) (some ⟨W.heap.size, 0, none⟩) n n l := by
 have hB := Blk.new W 73 (l.map ruC).flatten
 have hfl : (l.map ruC).flatten.length = n * 3 := by
  rw [← hn]
  clear hB hn
  induction l with
  | nil => rfl
  | cons x l ih => rw [List.map_cons, List.flatten_cons, List.length_append, ih, List.length_cons]; show 3 + _ = _; omega
 refine ⟨hn, fun _ _ _ => trivial, l.map ruC, ⟨hfl, Nat.le_refl _, by unfold maxLen; omega, (fun e => by cases e), fun _ => ⟨_, 0, rfl, hB.lt, fun j u hj => ?_⟩⟩, ru_rows l⟩
 rw [Nat.zero_add]
 exact hB.at_ hj
theorem rus_nil (W : World) : RuS W none 0 0 [] := .nil0 _ _ W

set_option maxRecDepth 100000 in
set_option maxHeartbeats 20000000 in
theorem sane31_any (w : World) (HT : Tabs w) : Calls Tryz.prog 8 #[] w (RetBo true w) := by
 have HT' := Lib.hid HT
 clear HT
 obtain ⟨s, x, t, A, B, hEx⟩ := Sto.lex_there
 obtain ⟨X, hX⟩ : ∃ X, X = RetBo true w := ⟨_, rfl⟩
 have hfin : Hid (∀ W, Below w.heap.size w W → X (.returned (.bool true)) W) := fun W hb => by rw [hX]; exact ⟨rfl, hb⟩
 rw [← hX]
 clear hX
 have hsv := Lib.hid (lex_sv hEx)
 have cv1 : ∀ W : World, (convert 71 71 (.slice (some ⟨W.heap.size, 0, none⟩) 1 1)).run Tryz.prog (W.alloc (.cells #[.int .u8 97] 5)) = .ok (.slice (some ⟨W.heap.size, 0, none⟩) 1 1) (W.alloc (.cells #[.int .u8 97] 5 (1, 2))) := lconv 97
 have cv2 : ∀ W : World, (convert 71 71 (.slice (some ⟨W.heap.size, 0, none⟩) 1 1)).run Tryz.prog (W.alloc (.cells #[.int .u8 98] 5)) = .ok (.slice (some ⟨W.heap.size, 0, none⟩) 1 1) (W.alloc (.cells #[.int .u8 98] 5 (1, 2))) := lconv 98
 obtain ⟨hN, hhN⟩ : ∃ h, Hid (showH s [] 0 0 = h) := ⟨_, rfl⟩
 have lN : Hid (hN.length = 37) := by rw [← hhN.out]; exact showH_len _ _ _ _
 have oN : Hid (∀ u ∈ hN, u.oneCell' = true) := by rw [← hhN.out]; exact showH_one _ _ _ _
 have nN : Hid (hN[2]? = some (.int .i64 0)) := by
  show _ = _
  rw [← hhN.out]
  unfold showH
  rw [hEx.sh]
  rfl
 go_enter Tryz.func8, Tryz.ntmps8
 go_wp2_with fail
 refine (lex_new s hEx.id hEx.priv _).mono ?_
 rintro e w1 ⟨rfl, hbw0⟩
 have hbw := Lib.hid hbw0
 clear hbw0
 obtain ⟨v1, hP⟩ : ∃ V, Hid (PutR 24 (w1.alloc (.cells ([.int .i64 0, .int .i64 0, .slice none 0 0] : List Value).toArray 24)) V w1.heap.size 24 ([.int .i64 s.id, .int .i64 s.priv, .slice none 0 0])) := put_row (Blk.new w1 24 ([.int .i64 0, .int .i64 0, .slice none 0 0])) rfl (sizeSt3) (st_one _ _ _ _ _)
 have hst := below_grown ((Below.refl _ w1).alloc (Nat.le_refl _) _) hP.out.grown (by simp) (Nat.le_refl _)
 replace hbw := Lib.hid (hbw.out.trans (hst.mono hbw.out.size))
 clear hst
 have hBs := Lib.hid hP.out.blk
 have s0 := hBs.out.at_ (i := 0) rfl
 have s1 := hBs.out.at_ (i := 1) rfl
 have s2 := hBs.out.at_ (i := 2) rfl
 go_wp2_with (first
  | (refine wpList_store_mid (by rfl) 24 (.tmp 1) (.tmp 33) (by rfl) w1.heap.size 0 ([.int .i64 s.id, .int .i64 s.priv, .slice none 0 0]).toArray (by rfl) (by rfl) hP.out.there hP.out.info (by simpa using hP.out.one) ?_
     generalize hWq : World.setCells _ _ _ _ = Wa
     obtain rfl : v1 = Wa := by rw [← hWq]; exact hP.out.eq
     clear hWq))
 clear s0 s1 s2 hP
 have hal : Below v1.heap.size v1 (v1.alloc (.cells #[.int .u8 97] 5 (1, 2))) := (Below.refl _ v1).alloc (Nat.le_refl _) _
 refine (lex_put hEx.put1 (show I64 3 from ⟨by decide, by decide⟩) ⟨by decide, by decide⟩ (HT'.out.below (hbw.out.trans (hal.mono hbw.out.size))) (hsv.out _) (lbs 97 (by decide) v1)).mono ?_
 rintro e w2 ⟨xa, xc, rfl, hS, hb⟩
 have hst := hal.trans (hb.mono hal.size)
 replace hBs := Lib.hid (hBs.out.below hst hBs.out.lt)
 replace hbw := Lib.hid (hbw.out.trans (hst.mono hbw.out.size))
 have hSx : Hid (SV (fun _ => True) w2 xa x.logs.length xc x) := hS.imp fun _ _ _ => trivial
 have hB12 : Hid (w1.heap.size < w2.heap.size) := hBs.out.lt
 have hw2 : Hid (w.heap.size ≤ w2.heap.size) := hbw.out.size
 clear hst hb hal hS
 obtain ⟨v2, hP⟩ : ∃ V, Hid (PutR 24 (w2.alloc (.cells ([.int .i64 0, .int .i64 0, .slice none 0 0] : List Value).toArray 24)) V w2.heap.size 24 ([.int .i64 x.id, .int .i64 x.priv, .slice xa x.logs.length xc])) := put_row (Blk.new w2 24 ([.int .i64 0, .int .i64 0, .slice none 0 0])) rfl (sizeSt3) (st_one _ _ _ _ _)
 have hst := below_grown ((Below.refl _ w2).alloc (Nat.le_refl _) _) hP.out.grown (by simp) (Nat.le_refl _)
 replace hBs := Lib.hid (hBs.out.below hst hBs.out.lt)
 replace hSx := Lib.hid (hSx.out.below hst)
 replace hbw := Lib.hid (hbw.out.trans (hst.mono hbw.out.size))
 clear hst
 have hBx := Lib.hid hP.out.blk
 have x0 := hBx.out.at_ (i := 0) rfl
 have x1 := hBx.out.at_ (i := 1) rfl
 have x2 := hBx.out.at_ (i := 2) rfl
 go_wp2_with (first
  | (refine wpList_store_mid (by rfl) 24 (.tmp 3) (.tmp 40) (by rfl) w2.heap.size 0 ([.int .i64 x.id, .int .i64 x.priv, .slice xa x.logs.length xc]).toArray (by rfl) (by rfl) hP.out.there hP.out.info (by simpa using hP.out.one) ?_
     generalize hWq : World.setCells _ _ _ _ = Wa
     obtain rfl : v2 = Wa := by rw [← hWq]; exact hP.out.eq
     clear hWq))
 clear x0 x1 x2 hP
 have hBx0 : Hid (w2.heap.size < v2.heap.size) := hBx.out.lt
 have hal : Below v2.heap.size v2 (v2.alloc (.cells #[.int .u8 98] 5 (1, 2))) := (Below.refl _ v2).alloc (Nat.le_refl _) _
 refine (lex_put hEx.put2 (show I64 3 from ⟨by decide, by decide⟩) ⟨by decide, by decide⟩ (HT'.out.below (hbw.out.trans (hal.mono hbw.out.size))) (hSx.out.below hal) (lbs 98 (by decide) v2)).mono ?_
 rintro e w3 ⟨ta, tc, rfl, hS, hb⟩
 have hst := hal.trans (hb.mono hal.size)
 replace hBs := Lib.hid (hBs.out.below hst hBs.out.lt)
 replace hSx := Lib.hid (hSx.out.below hst)
 replace hBx := Lib.hid (hBx.out.below hst hBx.out.lt)
 replace hbw := Lib.hid (hbw.out.trans (hst.mono hbw.out.size))
 clear hSx
 obtain ⟨v3, hP⟩ : ∃ V, Hid (PutR 24 w3 V w2.heap.size 24 ([.int .i64 t.id, .int .i64 t.priv, .slice ta t.logs.length tc])) := put_row hBx.out rfl sizeSt3 (st_one _ _ _ _ _)
 have hSt : Hid (SV (fun _ => True) v3 ta t.logs.length tc t) := (hS.keep (Keeps.grown hP.out.grown fun b hb e => by have := hBx0.out; have := hal.size; omega)).imp fun _ _ _ => trivial
 replace hBs := Lib.hid (hBs.out.grown hP.out.grown (fun e => by injection e with e; have := hB12.out; omega))
 have hBt := Lib.hid hP.out.blk
 replace hbw := Lib.hid (below_grown hbw.out hP.out.grown hbw.out.size hw2.out)
 clear hst hb hal hS hBx hBx0 hB12 hw2
 have s0 := hBs.out.at_ (i := 0) rfl
 have s1 := hBs.out.at_ (i := 1) rfl
 have s2 := hBs.out.at_ (i := 2) rfl
 have t0 := hBt.out.at_ (i := 0) rfl
 have t1 := hBt.out.at_ (i := 1) rfl
 have t2 := hBt.out.at_ (i := 2) rfl
 go_wp2_with (first
  | (refine wpList_store_mid (by rfl) 24 (.tmp 3) (.tmp 48) (by rfl) w2.heap.size 0 ([.int .i64 t.id, .int .i64 t.priv, .slice ta t.logs.length tc]).toArray (by rfl) (by rfl) hP.out.there hP.out.info (by simpa using hP.out.one) ?_
     generalize hWq : World.setCells _ _ _ _ = Wa
     obtain rfl : v3 = Wa := by rw [← hWq]; exact hP.out.eq
     clear hWq))
 clear s0 s1 s2 t0 t1 t2 hP
 refine (show_at hEx.sh (.inl rfl) (by decide) (show I64 0 from ⟨by decide, by decide⟩) (HT'.out.below hbw.out) (hsv.out _) (rus_nil _) hEx.bd0).mono ?_
 rintro e w4 ⟨na, nc, rfl, hE, hst⟩
 replace hBs := Lib.hid (hBs.out.below hst hBs.out.lt)
 replace hBt := Lib.hid (hBt.out.below hst hBt.out.lt)
 replace hSt := Lib.hid (hSt.out.below hst)
 replace hbw := Lib.hid (hbw.out.trans (hst.mono hbw.out.size))
 clear hst hE
 rw [hhN.out]
 obtain ⟨v4, hP⟩ : ∃ V, Hid (PutR 36 (w4.alloc (.cells (zeroHd : List Value).toArray 36)) V w4.heap.size 36 (hN)) := put_row (Blk.new w4 36 (zeroHd)) (by rw [lN.out, zeroHd_len]) (by rw [lN.out]; exact size37) (oN.out)
 have hst := below_grown ((Below.refl _ w4).alloc (Nat.le_refl _) _) hP.out.grown (by simp) (Nat.le_refl _)
 replace hBs := Lib.hid (hBs.out.below hst hBs.out.lt)
 replace hBt := Lib.hid (hBt.out.below hst hBt.out.lt)
 replace hSt := Lib.hid (hSt.out.below hst)
 replace hbw := Lib.hid (hbw.out.trans (hst.mono hbw.out.size))
 clear hst
 have hB9 := Lib.hid hP.out.blk
 have t0 := hBt.out.at_ (i := 0) rfl
 have t1 := hBt.out.at_ (i := 1) rfl
 have t2 := hBt.out.at_ (i := 2) rfl
 have hrm : Hid (RuS (v4.alloc (.cells #[.int .i64 1, .int .i64 1, .int .i64 1, .int .i64 2, .int .i64 5, .int .i64 1] 73)) (some ⟨v4.heap.size, 0, none⟩) 2 2 exR) := rus_made v4 exR 2 rfl (by decide) (by decide)
 go_upto_region 7 with (first
  | (refine wpList_store_mid (by rfl) 36 (.tmp 9) (.tmp 66) (by rfl) w4.heap.size 0 (hN).toArray (by rfl) (by rfl) hP.out.there hP.out.info (by simpa using hP.out.one) ?_
     generalize hWq : World.setCells _ _ _ _ = Wa
     obtain rfl : v4 = Wa := by rw [← hWq]; exact hP.out.eq
     clear hWq))
 clear hP
 have hal : Below v4.heap.size v4 (v4.alloc (.cells #[.int .i64 1, .int .i64 1, .int .i64 1, .int .i64 2, .int .i64 5, .int .i64 1] 73)) := (Below.refl _ v4).alloc (Nat.le_refl _) _
 replace hBs := Lib.hid (hBs.out.below hal hBs.out.lt)
 replace hBt := Lib.hid (hBt.out.below hal hBt.out.lt)
 replace hSt := Lib.hid (hSt.out.below hal)
 replace hB9 := Lib.hid (hB9.out.below hal hB9.out.lt)
 replace hbw := Lib.hid (hbw.out.trans (hal.mono hbw.out.size))
 have hRr := hrm
 clear hrm hal
 obtain ⟨v5, hP⟩ : ∃ V, Hid (PutR 27 ((v4.alloc (.cells #[.int .i64 1, .int .i64 1, .int .i64 1, .int .i64 2, .int .i64 5, .int .i64 1] 73)).alloc (.cells ([.int .i64 0, .int .i64 0, .slice none 0 0, .slice none 0 0] : List Value).toArray 27)) V (v4.alloc (.cells #[.int .i64 1, .int .i64 1, .int .i64 1, .int .i64 2, .int .i64 5, .int .i64 1] 73)).heap.size 27 ([.int .i64 t.id, .int .i64 t.priv, .slice ta t.logs.length tc, .slice (some ⟨v4.heap.size, 0, none⟩) 2 2])) := put_row (Blk.new (v4.alloc (.cells #[.int .i64 1, .int .i64 1, .int .i64 1, .int .i64 2, .int .i64 5, .int .i64 1] 73)) 27 ([.int .i64 0, .int .i64 0, .slice none 0 0, .slice none 0 0])) rfl (sizeLi) (li_one _ _ _ _ _ _ _ _)
 have hst := below_grown ((Below.refl _ (v4.alloc (.cells #[.int .i64 1, .int .i64 1, .int .i64 1, .int .i64 2, .int .i64 5, .int .i64 1] 73))).alloc (Nat.le_refl _) _) hP.out.grown (by simp) (Nat.le_refl _)
 replace hBs := Lib.hid (hBs.out.below hst hBs.out.lt)
 replace hBt := Lib.hid (hBt.out.below hst hBt.out.lt)
 replace hSt := Lib.hid (hSt.out.below hst)
 replace hB9 := Lib.hid (hB9.out.below hst hB9.out.lt)
 replace hRr := Lib.hid (hRr.out.below hst)
 replace hbw := Lib.hid (hbw.out.trans (hst.mono hbw.out.size))
 clear hst
 have hBl := Lib.hid hP.out.blk
 rw [show (v4.alloc (.cells #[.int .i64 1, .int .i64 1, .int .i64 1, .int .i64 2, .int .i64 5, .int .i64 1] 73)).heap.size = v4.heap.size + 1 from World.size_alloc _ _] at hP hBl
 have l0 := hBl.out.at_ (i := 0) rfl
 have l1 := hBl.out.at_ (i := 1) rfl
 have l2 := hBl.out.at_ (i := 2) rfl
 have l3 := hBl.out.at_ (i := 3) rfl
 go_wp2_with (first
  | (refine wpList_store_mid (by rfl) 27 (.tmp 11) (.tmp 72) (by rfl) (v4.heap.size + 1) 0 ([.int .i64 t.id, .int .i64 t.priv, .slice ta t.logs.length tc, .slice (some ⟨v4.heap.size, 0, none⟩) 2 2]).toArray (by rfl) (by rfl) hP.out.there hP.out.info (by simpa using hP.out.one) ?_
     generalize hWq : World.setCells _ _ _ _ = Wa
     obtain rfl : v5 = Wa := by rw [← hWq]; exact hP.out.eq
     clear hWq))
 clear t0 t1 t2 hP
 refine (show_at hEx.sh0 (.inl rfl) (by simp) (show I64 3 from ⟨by decide, by decide⟩) (HT'.out.below hbw.out) hSt.out hRr.out (hEx.bd3 3)).mono ?_
 rintro e w6 ⟨y6, z6, rfl, hE, hst⟩
 clear l0 l1 l2 l3
 replace hBs := Lib.hid (hBs.out.below hst hBs.out.lt)
 replace hBt := Lib.hid (hBt.out.below hst hBt.out.lt)
 replace hSt := Lib.hid (hSt.out.below hst)
 replace hB9 := Lib.hid (hB9.out.below hst hB9.out.lt)
 replace hRr := Lib.hid (hRr.out.below hst)
 replace hBl := Lib.hid (hBl.out.below hst hBl.out.lt)
 replace hbw := Lib.hid (hbw.out.trans (hst.mono hbw.out.size))
 clear hst hE
 generalize hh6 : showH t exR 0 3 = h6
 have ln6 : Hid (h6.length = 37) := by rw [← hh6]; exact showH_len _ _ _ _
 have on6 : Hid (∀ u ∈ h6, u.oneCell' = true) := by rw [← hh6]; exact showH_one _ _ _ _
 clear hh6
 obtain ⟨v6, hP⟩ : ∃ V, Hid (PutR 36 (w6.alloc (.cells (zeroHd : List Value).toArray 36)) V w6.heap.size 36 (h6)) := put_row (Blk.new w6 36 (zeroHd)) (by rw [ln6.out, zeroHd_len]) (by rw [ln6.out]; exact size37) (on6.out)
 have hst := below_grown ((Below.refl _ w6).alloc (Nat.le_refl _) _) hP.out.grown (by simp) (Nat.le_refl _)
 replace hBs := Lib.hid (hBs.out.below hst hBs.out.lt)
 replace hBt := Lib.hid (hBt.out.below hst hBt.out.lt)
 replace hSt := Lib.hid (hSt.out.below hst)
 replace hB9 := Lib.hid (hB9.out.below hst hB9.out.lt)
 replace hRr := Lib.hid (hRr.out.below hst)
 replace hBl := Lib.hid (hBl.out.below hst hBl.out.lt)
 replace hbw := Lib.hid (hbw.out.trans (hst.mono hbw.out.size))
 clear hst
 have hH6 := Lib.hid hP.out.blk
 clear hH6
 have l0 := hBl.out.at_ (i := 0) rfl
 have l1 := hBl.out.at_ (i := 1) rfl
 have l2 := hBl.out.at_ (i := 2) rfl
 have l3 := hBl.out.at_ (i := 3) rfl
 go_wp2_with (first
  | (refine wpList_store_mid (by rfl) 36 (.tmp 13) (.tmp 77) (by rfl) w6.heap.size 0 (h6).toArray (by rfl) (by rfl) hP.out.there hP.out.info (by simpa using hP.out.one) ?_
     generalize hWq : World.setCells _ _ _ _ = Wa
     obtain rfl : v6 = Wa := by rw [← hWq]; exact hP.out.eq
     clear hWq))
 clear hP ln6 on6
 refine (show_at hEx.sh1 (.inl rfl) (by simp) (show I64 3 from ⟨by decide, by decide⟩) (HT'.out.below hbw.out) hSt.out hRr.out (hEx.bd3 3)).mono ?_
 rintro e w7 ⟨y7, z7, rfl, hE, hst⟩
 clear l0 l1 l2 l3
 replace hBs := Lib.hid (hBs.out.below hst hBs.out.lt)
 replace hBt := Lib.hid (hBt.out.below hst hBt.out.lt)
 replace hSt := Lib.hid (hSt.out.below hst)
 replace hB9 := Lib.hid (hB9.out.below hst hB9.out.lt)
 replace hRr := Lib.hid (hRr.out.below hst)
 replace hBl := Lib.hid (hBl.out.below hst hBl.out.lt)
 replace hbw := Lib.hid (hbw.out.trans (hst.mono hbw.out.size))
 clear hst hE
 generalize hh7 : showH t exR 1 3 = h7
 have ln7 : Hid (h7.length = 37) := by rw [← hh7]; exact showH_len _ _ _ _
 have on7 : Hid (∀ u ∈ h7, u.oneCell' = true) := by rw [← hh7]; exact showH_one _ _ _ _
 clear hh7
 obtain ⟨v7, hP⟩ : ∃ V, Hid (PutR 36 (w7.alloc (.cells (zeroHd : List Value).toArray 36)) V w7.heap.size 36 (h7)) := put_row (Blk.new w7 36 (zeroHd)) (by rw [ln7.out, zeroHd_len]) (by rw [ln7.out]; exact size37) (on7.out)
 have hst := below_grown ((Below.refl _ w7).alloc (Nat.le_refl _) _) hP.out.grown (by simp) (Nat.le_refl _)
 replace hBs := Lib.hid (hBs.out.below hst hBs.out.lt)
 replace hBt := Lib.hid (hBt.out.below hst hBt.out.lt)
 replace hSt := Lib.hid (hSt.out.below hst)
 replace hB9 := Lib.hid (hB9.out.below hst hB9.out.lt)
 replace hRr := Lib.hid (hRr.out.below hst)
 replace hBl := Lib.hid (hBl.out.below hst hBl.out.lt)
 replace hbw := Lib.hid (hbw.out.trans (hst.mono hbw.out.size))
 clear hst
 have hH7 := Lib.hid hP.out.blk
 clear hH7
 have l0 := hBl.out.at_ (i := 0) rfl
 have l1 := hBl.out.at_ (i := 1) rfl
 have l2 := hBl.out.at_ (i := 2) rfl
 have l3 := hBl.out.at_ (i := 3) rfl
 go_wp2_with (first
  | (refine wpList_store_mid (by rfl) 36 (.tmp 16) (.tmp 83) (by rfl) w7.heap.size 0 (h7).toArray (by rfl) (by rfl) hP.out.there hP.out.info (by simpa using hP.out.one) ?_
     generalize hWq : World.setCells _ _ _ _ = Wa
     obtain rfl : v7 = Wa := by rw [← hWq]; exact hP.out.eq
     clear hWq))
 clear hP ln7 on7
 refine (show_at hEx.sh2 (.inl rfl) (by simp) (show I64 3 from ⟨by decide, by decide⟩) (HT'.out.below hbw.out) hSt.out hRr.out (hEx.bd3 3)).mono ?_
 rintro e w8 ⟨y8, z8, rfl, hE, hst⟩
 clear l0 l1 l2 l3
 replace hBs := Lib.hid (hBs.out.below hst hBs.out.lt)
 replace hBt := Lib.hid (hBt.out.below hst hBt.out.lt)
 replace hSt := Lib.hid (hSt.out.below hst)
 replace hB9 := Lib.hid (hB9.out.below hst hB9.out.lt)
 replace hRr := Lib.hid (hRr.out.below hst)
 replace hBl := Lib.hid (hBl.out.below hst hBl.out.lt)
 replace hbw := Lib.hid (hbw.out.trans (hst.mono hbw.out.size))
 have hE8 : Hid (ES (fun _ => True) w8 y8 2 z8 [forkE A, B]) := hE.imp fun _ _ _ => trivial
 clear hst hE
 generalize hh8 : showH t exR 2 3 = h8
 have ln8 : Hid (h8.length = 37) := by rw [← hh8]; exact showH_len _ _ _ _
 have on8 : Hid (∀ u ∈ h8, u.oneCell' = true) := by rw [← hh8]; exact showH_one _ _ _ _
 clear hh8
 obtain ⟨v8, hP⟩ : ∃ V, Hid (PutR 36 (w8.alloc (.cells (zeroHd : List Value).toArray 36)) V w8.heap.size 36 (h8)) := put_row (Blk.new w8 36 (zeroHd)) (by rw [ln8.out, zeroHd_len]) (by rw [ln8.out]; exact size37) (on8.out)
 have hst := below_grown ((Below.refl _ w8).alloc (Nat.le_refl _) _) hP.out.grown (by simp) (Nat.le_refl _)
 replace hBs := Lib.hid (hBs.out.below hst hBs.out.lt)
 replace hBt := Lib.hid (hBt.out.below hst hBt.out.lt)
 replace hSt := Lib.hid (hSt.out.below hst)
 replace hB9 := Lib.hid (hB9.out.below hst hB9.out.lt)
 replace hRr := Lib.hid (hRr.out.below hst)
 replace hBl := Lib.hid (hBl.out.below hst hBl.out.lt)
 replace hE8 := Lib.hid (hE8.out.below hst)
 replace hbw := Lib.hid (hbw.out.trans (hst.mono hbw.out.size))
 clear hst
 have hH8 := Lib.hid hP.out.blk
 clear hH8
 have l0 := hBl.out.at_ (i := 0) rfl
 have l1 := hBl.out.at_ (i := 1) rfl
 have l2 := hBl.out.at_ (i := 2) rfl
 have l3 := hBl.out.at_ (i := 3) rfl
 go_wp2_with (first
  | (refine wpList_store_mid (by rfl) 36 (.tmp 19) (.tmp 89) (by rfl) w8.heap.size 0 (h8).toArray (by rfl) (by rfl) hP.out.there hP.out.info (by simpa using hP.out.one) ?_
     generalize hWq : World.setCells _ _ _ _ = Wa
     obtain rfl : v8 = Wa := by rw [← hWq]; exact hP.out.eq
     clear hWq))
 clear hP ln8 on8
 refine (honest_at hEx.hon (HT'.out.below hbw.out) hSt.out hRr.out (hEx.bd3 3)).mono ?_
 rintro e w9 ⟨rfl, hst⟩
 clear l0 l1 l2 l3
 replace hBs := Lib.hid (hBs.out.below hst hBs.out.lt)
 replace hBt := Lib.hid (hBt.out.below hst hBt.out.lt)
 replace hSt := Lib.hid (hSt.out.below hst)
 replace hB9 := Lib.hid (hB9.out.below hst hB9.out.lt)
 replace hRr := Lib.hid (hRr.out.below hst)
 replace hBl := Lib.hid (hBl.out.below hst hBl.out.lt)
 replace hE8 := Lib.hid (hE8.out.below hst)
 replace hbw := Lib.hid (hbw.out.trans (hst.mono hbw.out.size))
 clear hst
 have l0 := hBl.out.at_ (i := 0) rfl
 have l1 := hBl.out.at_ (i := 1) rfl
 have l2 := hBl.out.at_ (i := 2) rfl
 have l3 := hBl.out.at_ (i := 3) rfl
 go_wp2_with fail
 refine (apart_at hEx.apt (HT'.out.below hbw.out) hSt.out hRr.out (hEx.bd3 3)).mono ?_
 rintro e w10 ⟨rfl, hst⟩
 clear l0 l1 l2 l3
 replace hBs := Lib.hid (hBs.out.below hst hBs.out.lt)
 replace hBt := Lib.hid (hBt.out.below hst hBt.out.lt)
 replace hSt := Lib.hid (hSt.out.below hst)
 replace hB9 := Lib.hid (hB9.out.below hst hB9.out.lt)
 replace hRr := Lib.hid (hRr.out.below hst)
 replace hBl := Lib.hid (hBl.out.below hst hBl.out.lt)
 replace hE8 := Lib.hid (hE8.out.below hst)
 replace hbw := Lib.hid (hbw.out.trans (hst.mono hbw.out.size))
 clear hst
 have l0 := hBl.out.at_ (i := 0) rfl
 have l1 := hBl.out.at_ (i := 1) rfl
 have l2 := hBl.out.at_ (i := 2) rfl
 have l3 := hBl.out.at_ (i := 3) rfl
 go_wp2_with fail
 refine (show_at hEx.bad1 (.inr rfl) (by simp) (show I64 0 from ⟨by decide, by decide⟩) (HT'.out.below hbw.out) hSt.out hRr.out (hEx.bd3 0)).mono ?_
 rintro e w11 ⟨y11, z11, rfl, hE, hst⟩
 clear l0 l1 l2 l3
 replace hBs := Lib.hid (hBs.out.below hst hBs.out.lt)
 replace hBt := Lib.hid (hBt.out.below hst hBt.out.lt)
 replace hSt := Lib.hid (hSt.out.below hst)
 replace hB9 := Lib.hid (hB9.out.below hst hB9.out.lt)
 replace hRr := Lib.hid (hRr.out.below hst)
 replace hBl := Lib.hid (hBl.out.below hst hBl.out.lt)
 replace hE8 := Lib.hid (hE8.out.below hst)
 replace hbw := Lib.hid (hbw.out.trans (hst.mono hbw.out.size))
 clear hst hE
 generalize hh11 : showH t exR 512 0 = h11
 have ln11 : Hid (h11.length = 37) := by rw [← hh11]; exact showH_len _ _ _ _
 have on11 : Hid (∀ u ∈ h11, u.oneCell' = true) := by rw [← hh11]; exact showH_one _ _ _ _
 clear hh11
 obtain ⟨v11, hP⟩ : ∃ V, Hid (PutR 36 (w11.alloc (.cells (zeroHd : List Value).toArray 36)) V w11.heap.size 36 (h11)) := put_row (Blk.new w11 36 (zeroHd)) (by rw [ln11.out, zeroHd_len]) (by rw [ln11.out]; exact size37) (on11.out)
 have hst := below_grown ((Below.refl _ w11).alloc (Nat.le_refl _) _) hP.out.grown (by simp) (Nat.le_refl _)
 replace hBs := Lib.hid (hBs.out.below hst hBs.out.lt)
 replace hBt := Lib.hid (hBt.out.below hst hBt.out.lt)
 replace hSt := Lib.hid (hSt.out.below hst)
 replace hB9 := Lib.hid (hB9.out.below hst hB9.out.lt)
 replace hRr := Lib.hid (hRr.out.below hst)
 replace hBl := Lib.hid (hBl.out.below hst hBl.out.lt)
 replace hE8 := Lib.hid (hE8.out.below hst)
 replace hbw := Lib.hid (hbw.out.trans (hst.mono hbw.out.size))
 clear hst
 have hH11 := Lib.hid hP.out.blk
 clear hH11
 have l0 := hBl.out.at_ (i := 0) rfl
 have l1 := hBl.out.at_ (i := 1) rfl
 have l2 := hBl.out.at_ (i := 2) rfl
 have l3 := hBl.out.at_ (i := 3) rfl
 go_wp2_with (first
  | (refine wpList_store_mid (by rfl) 36 (.tmp 26) (.tmp 105) (by rfl) w11.heap.size 0 (h11).toArray (by rfl) (by rfl) hP.out.there hP.out.info (by simpa using hP.out.one) ?_
     generalize hWq : World.setCells _ _ _ _ = Wa
     obtain rfl : v11 = Wa := by rw [← hWq]; exact hP.out.eq
     clear hWq))
 clear hP ln11 on11
 refine (show_at hEx.bad2 (.inr rfl) (by simp) (show I64 16 from ⟨by decide, by decide⟩) (HT'.out.below hbw.out) hSt.out hRr.out (hEx.bd3 16)).mono ?_
 rintro e w12 ⟨y12, z12, rfl, hE, hst⟩
 clear l0 l1 l2 l3
 replace hBs := Lib.hid (hBs.out.below hst hBs.out.lt)
 replace hBt := Lib.hid (hBt.out.below hst hBt.out.lt)
 replace hSt := Lib.hid (hSt.out.below hst)
 replace hB9 := Lib.hid (hB9.out.below hst hB9.out.lt)
 replace hRr := Lib.hid (hRr.out.below hst)
 replace hBl := Lib.hid (hBl.out.below hst hBl.out.lt)
 replace hE8 := Lib.hid (hE8.out.below hst)
 replace hbw := Lib.hid (hbw.out.trans (hst.mono hbw.out.size))
 clear hst hE
 generalize hh12 : showH t exR 0 16 = h12
 have ln12 : Hid (h12.length = 37) := by rw [← hh12]; exact showH_len _ _ _ _
 have on12 : Hid (∀ u ∈ h12, u.oneCell' = true) := by rw [← hh12]; exact showH_one _ _ _ _
 clear hh12
 obtain ⟨v12, hP⟩ : ∃ V, Hid (PutR 36 (w12.alloc (.cells (zeroHd : List Value).toArray 36)) V w12.heap.size 36 (h12)) := put_row (Blk.new w12 36 (zeroHd)) (by rw [ln12.out, zeroHd_len]) (by rw [ln12.out]; exact size37) (on12.out)
 have hst := below_grown ((Below.refl _ w12).alloc (Nat.le_refl _) _) hP.out.grown (by simp) (Nat.le_refl _)
 replace hBs := Lib.hid (hBs.out.below hst hBs.out.lt)
 replace hBt := Lib.hid (hBt.out.below hst hBt.out.lt)
 replace hSt := Lib.hid (hSt.out.below hst)
 replace hB9 := Lib.hid (hB9.out.below hst hB9.out.lt)
 replace hRr := Lib.hid (hRr.out.below hst)
 replace hBl := Lib.hid (hBl.out.below hst hBl.out.lt)
 replace hE8 := Lib.hid (hE8.out.below hst)
 replace hbw := Lib.hid (hbw.out.trans (hst.mono hbw.out.size))
 clear hst
 have hH12 := Lib.hid hP.out.blk
 clear hH12
 have l0 := hBl.out.at_ (i := 0) rfl
 have l1 := hBl.out.at_ (i := 1) rfl
 have l2 := hBl.out.at_ (i := 2) rfl
 have l3 := hBl.out.at_ (i := 3) rfl
 have n0 := hB9.out.at_ nN.out
 obtain ⟨fb, fo, r0, rfl, hfb, _, ⟨ok0, d0, m0, k0, er0, hk0⟩, hrl0, hrg0⟩ := hE8.out.rs.get (k := 0) rfl
 obtain ⟨_, _, r1, hy1, _, _, ⟨ok1, d1, m1, k1, er1, hk1⟩, hrl1, hrg1⟩ := hE8.out.rs.get (k := 1) rfl
 cases hy1
 rw [er0] at hrg0
 rw [er1] at hrg1
 have g0 : v12.cell? ⟨fb, fo + 33, none⟩ = some (.slice d0 m0 k0) := by
  have := hrg0 33 _ (entC_data ok0.dig d0 m0 k0)
  rwa [Nat.zero_mul, Nat.add_zero] at this
 have g1 : v12.cell? ⟨fb, fo + 35 + 33, none⟩ = some (.slice d1 m1 k1) := by
  have := hrg1 33 _ (entC_data ok1.dig d1 m1 k1)
  rwa [Nat.one_mul] at this
 have g2 : v12.cell? ⟨fb, fo + 68, none⟩ = some (.slice d1 m1 k1) := g1
 have hc0 : (convert 71 9 (.slice d0 m0 k0)).run Tryz.prog v12 = .ok (.string ⟨#[97, 0]⟩) v12 := by
  have := bs_text hk0.bs
  rw [show (forkE A).data = A.data ++ [0] from rfl, hEx.da] at this
  exact this
 have hc1 : (convert 71 9 (.slice d1 m1 k1)).run Tryz.prog v12 = .ok (.string ⟨#[98]⟩) v12 := by
  have := bs_text hk1.bs
  rw [hEx.db] at this
  exact this
 have hsx : ((⟨#[97, 0]⟩ : ByteArray) == ⟨#[97, 0]⟩) = true := by decide
 have hsy : ((⟨#[98]⟩ : ByteArray) == ⟨#[98]⟩) = true := by decide
 clear hrg0 hrg1 er0 er1 hrl0 hrl1 hk0 hk1 ok0 ok1 hfb
 go_wp2_with (first
  | (refine wpList_store_mid (by rfl) 36 (.tmp 29) (.tmp 111) (by rfl) w12.heap.size 0 (h12).toArray (by rfl) (by rfl) hP.out.there hP.out.info (by simpa using hP.out.one) ?_
     generalize hWq : World.setCells _ _ _ _ = Wa
     obtain rfl : v12 = Wa := by rw [← hWq]; exact hP.out.eq
     clear hWq))
 clear hP ln12 on12
 clear l0 l1 l2 l3 n0 g0 g1 g2 hc0 hc1
 clear hE8
 refine (check_at hEx.chk (HT'.out.below hbw.out) hSt.out hRr.out).mono ?_
 rintro e w13 ⟨rfl, hst⟩
 replace hBs := Lib.hid (hBs.out.below hst hBs.out.lt)
 replace hBt := Lib.hid (hBt.out.below hst hBt.out.lt)
 replace hSt := Lib.hid (hSt.out.below hst)
 replace hB9 := Lib.hid (hB9.out.below hst hB9.out.lt)
 replace hRr := Lib.hid (hRr.out.below hst)
 replace hBl := Lib.hid (hBl.out.below hst hBl.out.lt)
 replace hbw := Lib.hid (hbw.out.trans (hst.mono hbw.out.size))
 clear hst
 have s0 := hBs.out.at_ (i := 0) rfl
 have s1 := hBs.out.at_ (i := 1) rfl
 have s2 := hBs.out.at_ (i := 2) rfl
 go_wp2_with fail
 clear s0 s1 s2
 have hal : Below w13.heap.size w13 (w13.alloc (.cells #[.int .i64 0, .int .i64 7, .int .i64 0] 73)) := (Below.refl _ w13).alloc (Nat.le_refl _) _
 refine (check_at hEx.chkb (HT'.out.below (hbw.out.trans (hal.mono hbw.out.size))) (hsv.out _) (rus_made w13 [⟨0, 7, 0⟩] 1 rfl (by decide) (by decide))).mono ?_
 rintro e w14 ⟨rfl, hst⟩
 have hbz := Lib.hid (hbw.out.trans ((hal.trans (hst.mono hal.size)).mono hbw.out.size))
 clear hst hal
 go_wp2_with fail
 exact hfin.out _ hbz.out

end Go.Proofs.YtnonfdcbnkdmcaaGreatDoor
namespace Go.Proofs.YtnonfdcbnkdmcaaGreatDoor
open Go.ChangeShapes Go.WideShapes Go.ChangeAt Go.RowKit Go.Joins Go.Mem
open Go.Sto (Ent Lg St Rul)
theorem cellsLog : Tryz.prog.cellsOf 121 = 2 := by kernel_rfl
theorem cellsRul : Tryz.prog.cellsOf 73 = 3 := by kernel_rfl
theorem cellsSto : Tryz.prog.cellsOf 24 = 3 := by kernel_rfl
theorem cellsLia : Tryz.prog.cellsOf 27 = 4 := by kernel_rfl
theorem cellsSlE : Tryz.prog.cellsOf 30 = 1 := by kernel_rfl
theorem cellsSlL : Tryz.prog.cellsOf 22 = 1 := by kernel_rfl
theorem cellsSlR : Tryz.prog.cellsOf 25 = 1 := by kernel_rfl
section
variable {H : Type} {enc : TypeId × Value → H} {W : World}
theorem open_log {fuel : Nat} {cs : List Value} {x : DataW H × List MemPlace} (h : DataW.trod enc Tryz.prog W 0 (fun _ => true) true fuel 121 cs = some x) : ∃ y : Lg, LVr W y cs ∧ cs.length = 2 := by
 obtain ⟨xs, n, _, rfl, hl, hlen, hf⟩ := DataW.trod_struct Tryz.underlying121 h
 rw [cellsLog] at hl
 match xs, hlen with
 | [y0, y1], _ =>
  have h0 : DataW.trod enc Tryz.prog W 0 (fun _ => true) true n 3 ((cs.drop 0).take (Tryz.prog.cellsOf 3)) = some y0 := hf 0 _ rfl
  rw [cellsInt] at h0
  have h1 : DataW.trod enc Tryz.prog W 0 (fun _ => true) true n 30 ((cs.drop 1).take (Tryz.prog.cellsOf 30)) = some y1 := hf 1 _ rfl
  rw [cellsSlE] at h1
  obtain ⟨f, e0, i0⟩ := open_int1 h0
  obtain ⟨a, n, c, l, e1, hE⟩ := open_ents h1
  have q2 : cs.drop 2 = [] := List.drop_eq_nil_of_le (by omega)
  have q1 : cs.drop 1 = [.slice a n c] := by rw [drop_parts cs 1 1 2 rfl, e1, q2]; rfl
  have q0 : cs.drop 0 = [.int .i64 f, .slice a n c] := by rw [drop_parts cs 0 1 1 rfl, e0, q1]; rfl
  exact ⟨⟨f, l⟩, ⟨i0, a, n, c, q0, hE⟩, hl⟩
theorem open_logs {fuel : Nat} {cs : List Value} {x : DataW H × List MemPlace} (h : DataW.trod enc Tryz.prog W 0 (fun _ => true) true fuel 22 cs = some x) : ∃ a n c l, cs = [.slice a n c] ∧ LSr W a n c l :=
 open_rows (R := LVr) ⟨0, []⟩ Tryz.underlying22 cellsLog (by decide) open_log h
def RVr (_ : World) (x : Rul) (r : List Value) : Prop := r = ruC x ∧ I64 x.dev ∧ I64 x.kind ∧ I64 x.n
theorem open_rule {fuel : Nat} {cs : List Value} {x : DataW H × List MemPlace} (h : DataW.trod enc Tryz.prog W 0 (fun _ => true) true fuel 73 cs = some x) : ∃ y : Rul, RVr W y cs ∧ cs.length = 3 := by
 obtain ⟨xs, n, _, rfl, hl, hlen, hf⟩ := DataW.trod_struct Tryz.underlying73 h
 rw [cellsRul] at hl
 match xs, hlen with
 | [y0, y1, y2], _ =>
  have h0 : DataW.trod enc Tryz.prog W 0 (fun _ => true) true n 3 ((cs.drop 0).take (Tryz.prog.cellsOf 3)) = some y0 := hf 0 _ rfl
  rw [cellsInt] at h0
  have h1 : DataW.trod enc Tryz.prog W 0 (fun _ => true) true n 3 ((cs.drop 1).take (Tryz.prog.cellsOf 3)) = some y1 := hf 1 _ rfl
  rw [cellsInt] at h1
  have h2 : DataW.trod enc Tryz.prog W 0 (fun _ => true) true n 3 ((cs.drop 2).take (Tryz.prog.cellsOf 3)) = some y2 := hf 2 _ rfl
  rw [cellsInt] at h2
  obtain ⟨d, e0, i0⟩ := open_int1 h0
  obtain ⟨k, e1, i1⟩ := open_int1 h1
  obtain ⟨m, e2, i2⟩ := open_int1 h2
  have q3 : cs.drop 3 = [] := List.drop_eq_nil_of_le (by omega)
  have q2 : cs.drop 2 = [.int .i64 m] := by rw [drop_parts cs 2 1 3 rfl, e2, q3]; rfl
  have q1 : cs.drop 1 = [.int .i64 k, .int .i64 m] := by rw [drop_parts cs 1 1 2 rfl, e1, q2]; rfl
  have q0 : cs.drop 0 = [.int .i64 d, .int .i64 k, .int .i64 m] := by rw [drop_parts cs 0 1 1 rfl, e0, q1]; rfl
  exact ⟨⟨d, k, m⟩, ⟨q0, i0, i1, i2⟩, hl⟩
theorem open_rules {fuel : Nat} {cs : List Value} {x : DataW H × List MemPlace} (h : DataW.trod enc Tryz.prog W 0 (fun _ => true) true fuel 25 cs = some x) : ∃ a n c l, cs = [.slice a n c] ∧ RuS W a n c l := by
 obtain ⟨a, n, c, l, e, hR⟩ := open_rows (R := RVr) ⟨0, 0, 0⟩ Tryz.underlying25 cellsRul (by decide) open_rule h
 exact ⟨a, n, c, l, e, RS.keep hR (Keeps.refl W) fun _ _ h => h.1⟩
theorem open_store {fuel : Nat} {cs : List Value} {x : DataW H × List MemPlace} (h : DataW.trod enc Tryz.prog W 0 (fun _ => true) true fuel 24 cs = some x) : ∃ (s : St) (a : Option Addr) (n c : Nat), cs = stC s a n c ∧ SVr W a n c s := by
 obtain ⟨xs, n, _, rfl, hl, hlen, hf⟩ := DataW.trod_struct Tryz.underlying24 h
 rw [cellsSto] at hl
 match xs, hlen with
 | [y0, y1, y2], _ =>
  have h0 : DataW.trod enc Tryz.prog W 0 (fun _ => true) true n 3 ((cs.drop 0).take (Tryz.prog.cellsOf 3)) = some y0 := hf 0 _ rfl
  rw [cellsInt] at h0
  have h1 : DataW.trod enc Tryz.prog W 0 (fun _ => true) true n 3 ((cs.drop 1).take (Tryz.prog.cellsOf 3)) = some y1 := hf 1 _ rfl
  rw [cellsInt] at h1
  have h2 : DataW.trod enc Tryz.prog W 0 (fun _ => true) true n 22 ((cs.drop 2).take (Tryz.prog.cellsOf 22)) = some y2 := hf 2 _ rfl
  rw [cellsSlL] at h2
  obtain ⟨d, e0, i0⟩ := open_int1 h0
  obtain ⟨k, e1, i1⟩ := open_int1 h1
  obtain ⟨a, m, c, l, e2, hL⟩ := open_logs h2
  have q3 : cs.drop 3 = [] := List.drop_eq_nil_of_le (by omega)
  have q2 : cs.drop 2 = [.slice a m c] := by rw [drop_parts cs 2 1 3 rfl, e2, q3]; rfl
  have q1 : cs.drop 1 = [.int .i64 k, .slice a m c] := by rw [drop_parts cs 1 1 2 rfl, e1, q2]; rfl
  have q0 : cs.drop 0 = [.int .i64 d, .int .i64 k, .slice a m c] := by rw [drop_parts cs 0 1 1 rfl, e0, q1]; rfl
  exact ⟨⟨d, k, l⟩, a, m, c, q0, hL, i0, i1⟩
theorem open_liar {fuel : Nat} {cs : List Value} {x : DataW H × List MemPlace} (h : DataW.trod enc Tryz.prog W 0 (fun _ => true) true fuel 27 cs = some x) : ∃ (s : St) (a : Option Addr) (n c : Nat) (ra : Option Addr) (rn rc : Nat) (rs : List Rul), cs = liC s a n c ra rn rc ∧ SVr W a n c s ∧ RuS W ra rn rc rs := by
 obtain ⟨xs, n, _, rfl, hl, hlen, hf⟩ := DataW.trod_struct Tryz.underlying27 h
 rw [cellsLia] at hl
 match xs, hlen with
 | [y0, y1], _ =>
  have h0 : DataW.trod enc Tryz.prog W 0 (fun _ => true) true n 24 ((cs.drop 0).take (Tryz.prog.cellsOf 24)) = some y0 := hf 0 _ rfl
  rw [cellsSto] at h0
  have h1 : DataW.trod enc Tryz.prog W 0 (fun _ => true) true n 25 ((cs.drop 3).take (Tryz.prog.cellsOf 25)) = some y1 := hf 1 _ rfl
  rw [cellsSlR] at h1
  obtain ⟨s, a, m, c, e0, hS⟩ := open_store h0
  obtain ⟨ra, rn, rc, rs, e1, hR⟩ := open_rules h1
  have q4 : cs.drop 4 = [] := List.drop_eq_nil_of_le (by omega)
  have q3 : cs.drop 3 = [.slice ra rn rc] := by rw [drop_parts cs 3 1 4 rfl, e1, q4]; rfl
  have q0 : cs.drop 0 = stC s a m c ++ [.slice ra rn rc] := by rw [drop_parts cs 0 3 3 rfl, e0, q3]
  exact ⟨s, a, m, c, ra, rn, rc, rs, q0, hS, hR⟩
end
end Go.Proofs.YtnonfdcbnkdmcaaGreatDoor
namespace Go.Sto
theorem showL_p {s : St} {rs : List Rul} {dev f : Int} : showL s rs dev f = ((if (shownL s rs dev f).2.2 = 0 then (shownL s rs dev f).2.1 else []), (shownL s rs dev f).2.2) := by
 unfold showL
 split
 · rename_i h; rw [h]
 · rfl
theorem showL_err {s : St} {rs : List Rul} {dev f : Int} (h : (showL s rs dev f).2 ≠ 0) : (showL s rs dev f).1 = [] := by
 rw [showL_p] at h ⊢
 exact if_neg h
theorem showL_ok {s : St} {rs : List Rul} {dev f : Int} (h : (showL s rs dev f).2 = 0) : (shownL s rs dev f).2.2 = 0 ∧ (showL s rs dev f).1 = (shownL s rs dev f).2.1 := by
 rw [showL_p] at h ⊢
 exact ⟨h, if_pos h⟩
theorem showL_len {s : St} {rs : List Rul} {dev f : Int} (h : BdL 0 (ents s f)) : (showL s rs dev f).1.length ≤ 78 := by
 rw [showL_p]
 show (if (shownL s rs dev f).2.2 = 0 then (shownL s rs dev f).2.1 else []).length ≤ 78
 split
 · exact (shown_bd h).len
 · exact Nat.zero_le _
theorem chk_priv {s : St} (h : chkS s = 0) : Go.Proofs.YtnonfdcbnkdmcaaGreatDoor.keyOk s.priv = true ∧ (0 ≤ s.id ∧ s.id < 4) := by
 unfold chkS at h
 split at h
 · rename_i h1
   have h2 := h1.1
   unfold newE at h2
   split at h2
   · rename_i h3
     split at h2
     · rename_i h4; exact ⟨h4, h3⟩
     · cases h2
   · cases h2
 · cases h
theorem open_fo {s : St} {f : Int} (h : openE s f = 0) : chkS s = 0 ∧ (0 ≤ f ∧ f < 16) := by
 rw [openE_iff] at h
 exact ⟨h.1, of_decide_eq_true h.2⟩
end Go.Sto
namespace Go.Proofs.YtnonfdcbnkdmcaaGreatDoor
open Go.RowKit Go.Mem Go.Shelf
open Go.Sto (Ent St Rul forkE BdL)
open Go.Vw (Hd Sg)
theorem show_sg {s : St} {rs : List Rul} {dev f : Int} (h : (Sto.showL s rs dev f).2 = 0) (hbd : BdL 0 (Sto.ents s f)) :
 ∃ k : Hd, OkH k ∧ hdC k = showH s rs dev f ∧ Sg s.id f (pubB 4 s.priv) ((Sto.showL s rs dev f).1.map (·.dig)) k := by
 obtain ⟨h1, h2⟩ := Sto.showL_ok h
 obtain ⟨_, _, h3, _⟩ := Sto.shownL_ok h1
 obtain ⟨h4, h5⟩ := Sto.open_fo (Sto.fetch_open h3)
 obtain ⟨h6, h7⟩ := Sto.chk_priv h4
 have hl := Sto.showL_len (rs := rs) (dev := dev) hbd
 obtain ⟨k, ok, ek, sk⟩ := sign_hd s f (Sto.showL s rs dev f).1.length ((Sto.showL s rs dev f).1.map (·.dig)) h6 h7 h5 (by omega) (by rw [List.length_map])
 refine ⟨k, ok, ?_, sk⟩
 rw [ek]
 unfold showH
 rw [if_pos h1, h2]
theorem zeroHd_eq : hdC Go.Vw.zeroH = zeroHd := by kernel_rfl
theorem show_hd {s : St} {rs : List Rul} {dev f : Int} (hbd : BdL 0 (Sto.ents s f)) : ∃ k : Hd, OkH k ∧ hdC k = showH s rs dev f := by
 by_cases h : (Sto.showL s rs dev f).2 = 0
 · obtain ⟨k, ok, ek, _⟩ := show_sg h hbd
   exact ⟨k, ok, ek⟩
 · refine ⟨Go.Vw.zeroH, okH0, ?_⟩
   unfold showH
   rw [if_neg (by rw [Sto.showL_p] at h; exact h)]
   exact zeroHd_eq
theorem show_hk {s : St} {rs : List Rul} {dev f : Int} (hbd : BdL 0 (Sto.ents s f)) : ∃ k : Hd, OkH k ∧ hdC k = showH s rs dev f ∧ ((Sto.showL s rs dev f).2 = 0 → Sg s.id f (pubB 4 s.priv) ((Sto.showL s rs dev f).1.map (·.dig)) k) := by
 by_cases h : (Sto.showL s rs dev f).2 = 0
 · obtain ⟨k, ok, ek, sk⟩ := show_sg h hbd
   exact ⟨k, ok, ek, fun _ => sk⟩
 · obtain ⟨k, ok, ek⟩ := show_hd (rs := rs) (dev := dev) hbd
   exact ⟨k, ok, ek, fun e => absurd e h⟩
def ShkPost (L : List Ent) (k : Hd) (q : Int) (w : World) (e : Ending) (w' : World) : Prop :=
 ∃ va vc, e = .returned (.tuple #[.slice va L.length vc, .agg (hdC k).toArray, .int .i64 q]) ∧ ES (fun b => w.heap.size ≤ b) w' va L.length vc L ∧ Below w.heap.size w w'
theorem shk_any {s : St} {rs : List Rul} {dev f : Int} {k : Hd} (hk : hdC k = showH s rs dev f) (hf : I64 f) {a ra : Option Addr} {n c rn rc : Nat} {w : World} (HT : Tabs w) (H : SV (fun _ => True) w a n c s) (HR : RuS w ra rn rc rs) (hbd : BdL 0 (Sto.ents s f)) :
 Calls Tryz.prog 10 #[.agg #[.int .i64 s.id, .int .i64 s.priv, .slice a n c, .slice ra rn rc], .int .i64 dev, .int .i64 f] w (ShkPost (Sto.showL s rs dev f).1 k (Sto.showL s rs dev f).2 w) := by
 refine (lshow_any a n c s ra rn rc rs dev f hf w HT H HR hbd).mono ?_
 rintro e w' ⟨v, rfl, ho, hb⟩
 obtain ⟨rows, h2, h3⟩ := ho
 obtain ⟨va, vc, rfl, hR, hs⟩ := Sl.of_owns h2
 rw [← hk]
 have hl := Sto.showL_len (rs := rs) (dev := dev) hbd
 exact ⟨va, vc, rfl, ⟨⟨rfl, fun _ ad e => (hs ad e).1, rows, hR, h3.imp fun _ _ h => h.imp fun b _ k => k.1⟩, by omega⟩, hb⟩
end Go.Proofs.YtnonfdcbnkdmcaaGreatDoor

