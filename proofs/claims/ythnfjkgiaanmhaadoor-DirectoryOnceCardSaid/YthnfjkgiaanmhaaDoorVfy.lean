/- directory.Verify -/
import Derived.Test.YthnfjkgiaanmhaaDoorDiJ
import Derived.Test.YthnfjkgiaanmhaaDoorEqr
import Derived.Stop.RegionWithIn
import Derived.Sort.CutIn
import Derived.ControlIn
namespace Go.Dj
/-- a long load under a guard that holds. -/
theorem wpListIn_load_g {F : Fence} {n : Nat} {P : Program} {ops : Array Oper} {rest : List Oper} {op : Oper} {a : Act} {w : World} {Q : Exit → Act → World → Prop} (hw : Region.wanted op (yielded ops a.tmps) = true) (ty : TypeId) (x : Operand) (ho : op.op = .load ty x)
    (b o : Nat) (hx : a.eval x = .pointer (some ⟨b, o, none⟩)) (cs : List Value) (d : TypeDesc) (hc : w.rangeAt b o cs)
    (hu : P.underlying ty = some d) (hd : d.isRow = true) (hi : (P.info? ty).map (·.size) = some cs.length)
    (h : wpListIn F n P ops Q rest (a.put op.dst (.agg cs.toArray)) w) : wpListIn F n P ops Q (op :: rest) a w := by
  refine BigFrame.wpListIn_want hw fun K hK' => ?_
  unfold Oper.wpIn
  refine ⟨?_, ?_⟩
  · simp [Oper.about, ho]
  · rw [Oper.semAt_plain F _ _ (by rw [ho]; intro c hc'; cases hc')]
    unfold execOp
    simp only [ho, hx, Instr.loadAt, Instr.sureAddr, Sem.run_bind, Sem.run_pure, Result.andThen_ok, run_loadVar_mid w b o ty cs d hc hu hd hi]
    exact hK' _ _ h
/-- panics barred. -/
def NoPan (Q : Exit → Act → World → Prop) : Exit → Act → World → Prop
  | .panic _, _, _ => False
  | e, a, w => Q e a w
theorem wp_nopan {P : Program} {c : Code} {Q : Exit → Act → World → Prop} {a : Act} {w : World} (h : c.wp P (NoPan Q) a w) : c.wp P Q a w :=
  wp_mono h (fun e a w h => by cases e <;> first | exact h | exact h.elim)
theorem nopan_normal {Q : Exit → Act → World → Prop} {a : Act} {w : World} (h : Q .normal a w) : NoPan Q .normal a w := h
end Go.Dj
namespace Go.Proofs.YthnfjkgiaanmhaaDoor
open Go.RowKit Go.Mem Go.Shelf
open Go.Dr (Lst Rt)
attribute [local go_sem] Oper.semAt_some

/-- what the loop keeps. -/
def VrI (wL : World) (tb : Nat) (root : List Nat) (pre : List (Nat × List Nat)) (W : World) : Prop :=
  Blk W (tb + 2) 4 [.bool (Go.Dr.lastOk root pre)] ∧ Blk W tb 23 (bv root) ∧ Below tb wL W
theorem vrI_deaf (wL : World) (tb q : Nat) (root : List Nat) (hq : tb + 3 ≤ q) (hs : q < wL.heap.size) : Deaf (LoopR q wL.heap.size) (VrI wL tb root) := by
  rintro s A C row ⟨h1, h3, h4⟩ hg hr
  have hr' : ∀ r, row = some r → tb + 3 ≤ r := fun r e => by have := hr r e; unfold LoopR at this; omega
  exact ⟨h1.grown hg (fun e => by have := hr' _ e.symm; omega), h3.grown hg (fun e => by have := hr' _ e.symm; omega), h4.grown hg (by have := h4.size; omega) (fun r e => by have := hr' r e; omega)⟩

/-- what the walk keeps ahead of the loop. -/
def VrW (w : World) (tb : Nat) (root : List Nat) (x : Lst) (wz : World) : Prop := Blk wz tb 23 (bv root) ∧ Blk wz (tb + 1) 25 (gC x) ∧ Blk wz (tb + 1 + 1) 4 [.bool false] ∧ Below w.heap.size w wz
section
variable {w wz wq : World} {tb : Nat} {root : List Nat} {x : Lst}
theorem VrW.drew (h : VrW w tb root x wz) : VrW w tb root x wz.drew := ⟨h.1, h.2.1, h.2.2.1, h.2.2.2.drew⟩
theorem VrW.next (h : VrW w tb root x wz) (hb : Below wz.heap.size wz wq) : VrW w tb root x wq := ⟨h.1.below hb h.1.lt, h.2.1.below hb h.2.1.lt, h.2.2.1.below hb h.2.2.1.lt, h.2.2.2.trans (hb.mono h.2.2.2.size)⟩
end

set_option maxRecDepth 20000 in
set_option maxHeartbeats 8000000 in
theorem verify_in (root : List Nat) (hro : Dig root) (x : Lst) (hx : OkG x) (nx : Bool) (path : List (List Nat)) (a : Option Addr) (n c : Nat) (w : World) (HT : Tabs w) (H : DS w a n c path) (hd0 : 0 ≤ x.dev) (hd1 : x.dev < 512) (hn9 : n = 9) :
    Calls Tryd.prog 5 #[.agg (bv root).toArray, .agg (gC x).toArray, .bool nx, .slice a n c] w (RetBo (Go.Dr.verP root x nx path) w) := by
  have HT' := Lib.hid HT; have H' := Lib.hid H; have hx' := Lib.hid hx; have hro' := Lib.hid hro
  have hlen := H.len
  subst hn9
  clear HT H hx hro
  obtain ⟨nn, hnn⟩ : ∃ nn : Nat, Hid (512 + x.dev = (nn : Int) ∧ nn = 512 + x.dev.toNat) := ⟨512 + x.dev.toNat, by omega, rfl⟩
  have hnr : Hid (nn / 2 ^ 9 = 1) := by show _ = _; rw [hnn.out.2]; exact Go.Dr.dev_root ⟨hd0, hd1⟩
  have hn2 : Hid (nn < 1024) := by have := hnn.out.1; show _ < _; omega
  obtain ⟨d0, hd⟩ : ∃ d0, Hid (Go.Dr.leafOf x nx = d0) := ⟨_, rfl⟩
  have hdk : Hid (d0.length = 32 ∧ ∀ u ∈ d0, u < 256) := by rw [← hd.out]; exact ⟨Go.Dr.leafOf_length _ _, Go.Dr.leafOf_lt _ _⟩
  have hres : Hid (∀ xs, xs = Go.Dr.climbS nn d0 path → Go.Dr.lastOk root xs = Go.Dr.verP root x nx path) := fun xs e => by
    rw [e, Go.Dr.lastOk_climb hlen hnr.out]
    unfold Go.Dr.verP
    rw [decide_eq_true (And.intro hd0 hd1), decide_eq_true hlen, ← hnn.out.2, hd.out]
    simp
  have hlf := Lib.hid (fun W hT => leaf_any x hx'.out nx W hT)
  rw [hd.out] at hlf
  obtain ⟨V, hV⟩ : ∃ V, Hid (Go.Dr.verP root x nx path = V) := ⟨_, rfl⟩
  rw [hV.out] at hres ⊢
  obtain ⟨tb, htb⟩ : ∃ tb, Hid (w.heap.size = tb) := ⟨_, rfl⟩
  have h1' : decide (x.dev < 0) = false := by simpa using hd0
  have h2' : decide (512 ≤ x.dev) = false := by simpa using hd1
  refine callsIn_wide (n := 6).1 ?_
  refine callsIn_of_wp_marks Tryd.func5 rfl trivial ?_ rfl
  simp only [Tryd.ntmps5, List.size_toArray, List.length_cons, List.length_nil, Nat.reduceAdd, Nat.reduceSub, Array.replicate_succ, Array.replicate_zero, List.push_toArray, List.append_toArray, List.nil_append, List.cons_append]
  gi_upto_region 1 with fail
  rw [htb.out]
  generalize hW : World.alloc _ _ = W
  have hR : Hid (Blk W tb 23 (bv root)) := by rw [← hW, ← htb.out]; exact ((Blk.new w _ (bv root)).alloc _).alloc _
  have hX : Hid (Blk W (tb + 1) 25 (gC x)) := by
    rw [← hW, ← htb.out]
    have := (Blk.new (w.alloc (.cells (bv root).toArray 23)) 25 (gC x)).alloc (.cells #[.bool false] 4)
    rwa [World.size_alloc] at this
  have hO : Hid (Blk W (tb + 1 + 1) 4 [.bool false]) := by
    rw [← hW, ← htb.out]
    have := Blk.new ((w.alloc (.cells (bv root).toArray 23)).alloc (.cells (gC x).toArray 25)) 4 [.bool false]
    rwa [World.size_alloc, World.size_alloc] at this
  have hb : Hid (Below w.heap.size w W) := by rw [← hW]; exact (((Below.refl _ w).alloc (Nat.le_refl _) _).alloc (by simp) _).alloc (by simp; omega) _
  clear hW
  have c0 := hX.out.at_ (i := 0) (x := .int .i64 x.dev) rfl
  have c1 := hX.out.at_ (i := 1) (x := .int .i64 x.ver) rfl
  have c2 := hX.out.at_ (i := 2) (x := .int .i64 x.leaf) rfl
  have c3 := hX.out.at_ (i := 3) (x := .int .i64 x.vers) rfl
  have c4 := hX.out.at_ (i := 4) (x := .bool x.gone) rfl
  gi_upto_region 3 with fail
  have hM : VrW w tb root x W := ⟨hR.out, hX.out, hO.out, hb.out⟩
  clear hb hX hR hO c0 c1 c2 c3 c4
  refine wpIn_wide.2 (Go.Dj.wp_nopan ?_)
  refine wp_region_held_drew (S := fun wz => VrW w tb root x wz) (by kernel_rfl) (hM.drew) (fun hHeld => ?_)
  generalize W.drew = W0 at *
  refine wpAnyH_take (i := 0) (oi := { dst := some 24, op := Op.fieldAddr 25 (Operand.tmp 5) 0, type := 0, pos := "directory.go:138", after := #[], guard := none }) (v := ?_) rfl (by kernel_rfl) (by kernel_rfl) (by kernel_rfl) (fun _ _ _ h => h) (Or.inl ⟨by rfl, ?_⟩) hHeld ?_
  rotate_left
  · intro wz hSw
    go_simp
    all_goals (with_reducible rfl)
  try simp only [Act.put, List.setIfInBounds_toArray, List.set_cons_zero, List.set_cons_succ]
  refine wpAnyH_take (i := 1) (oi := { dst := some 25, op := Op.load 3 (Operand.tmp 24), type := 3, pos := "directory.go:138", after := #[{ on := 0, ground := Ground.data }], guard := none }) (v := ?_) rfl (by kernel_rfl) (by kernel_rfl) (by kernel_rfl) (fun _ _ _ h => h) (Or.inl ⟨by rfl, ?_⟩) hHeld ?_
  rotate_left
  · intro wz hSw
    have q0 := hSw.2.1.at_ (i := 0) (x := .int .i64 x.dev) rfl
    go_simp
    all_goals (with_reducible rfl)
  try simp only [Act.put, List.setIfInBounds_toArray, List.set_cons_zero, List.set_cons_succ]
  refine wpAnyH_take (i := 2) (oi := { dst := some 26, op := Op.load 25 (Operand.tmp 5), type := 25, pos := "directory.go:138", after := #[], guard := none }) (v := ?_) rfl (by kernel_rfl) (by kernel_rfl) (by kernel_rfl) (fun _ _ _ h => h) (Or.inl ⟨by rfl, ?_⟩) hHeld ?_
  rotate_left
  · intro wz hSw
    have q0 := hSw.2.1.at_ (i := 0) (x := .int .i64 x.dev) rfl
    have q1 := hSw.2.1.at_ (i := 1) (x := .int .i64 x.ver) rfl
    have q2 := hSw.2.1.at_ (i := 2) (x := .int .i64 x.leaf) rfl
    have q3 := hSw.2.1.at_ (i := 3) (x := .int .i64 x.vers) rfl
    have q4 := hSw.2.1.at_ (i := 4) (x := .bool x.gone) rfl
    go_simp
    all_goals (with_reducible rfl)
  try simp only [Act.put, List.setIfInBounds_toArray, List.set_cons_zero, List.set_cons_succ]
  refine wpAnyH_take (i := 3) (oi := { dst := some 27, op := Op.move (Operand.tmp 2), type := 4, pos := "directory.go:138", after := #[], guard := none }) (v := ?_) rfl (by kernel_rfl) (by kernel_rfl) (by kernel_rfl) (fun _ _ _ h => h) (Or.inl ⟨by rfl, ?_⟩) hHeld ?_
  rotate_left
  · intro wz hSw
    go_simp
    all_goals (with_reducible rfl)
  try simp only [Act.put, List.setIfInBounds_toArray, List.set_cons_zero, List.set_cons_succ]
  refine wpAnyH_take (i := 5) (oi := { dst := some 29, op := Op.move (Operand.tmp 3), type := 26, pos := "directory.go:138", after := #[], guard := none }) (v := ?_) rfl (by kernel_rfl) (by kernel_rfl) (by kernel_rfl) (fun _ _ _ h => h) (Or.inl ⟨by rfl, ?_⟩) hHeld ?_
  rotate_left
  · intro wz hSw
    go_simp
    all_goals (with_reducible rfl)
  try simp only [Act.put, List.setIfInBounds_toArray, List.set_cons_zero, List.set_cons_succ]
  refine wpAnyH_ready (rs := [4]) (by kernel_rfl) (by simp) ?_
  refine AllReadyH.cons (o := { dst := some 28, op := Op.call { callee := Callee.value (Operand.func 15), args := #[Operand.tmp 26, Operand.tmp 27], argTypes := #[25, 4] }, type := 23, pos := "directory.go:138", after := #[{ on := 2, ground := Ground.data }, { on := 3, ground := Ground.data }], guard := none }) rfl (fun K hK => ?_) AllReadyH.nil
  rw [if_pos (by rfl)]
  show Oper.wp _ _ _ _ K _
  go_simp
  go_at_call 15
  refine (hlf.out _ (HT'.out.below hHeld.2.2.2)).mono ?_
  rintro e W1 ⟨rfl, hst⟩
  refine hK.out _ _ (hHeld.next hst) (fun hHeld2 => ?_)
  clear hHeld
  have hHeld := hHeld2
  clear hHeld2
  clear hK K
  try simp only [Act.put, List.setIfInBounds_toArray, List.set_cons_zero, List.set_cons_succ]
  refine wpAnyH_ready (rs := [6]) (by kernel_rfl) (by simp) ?_
  refine AllReadyH.cons (o := { dst := some 30, op := Op.call { callee := Callee.value (Operand.func 14), args := #[Operand.tmp 25, Operand.tmp 28, Operand.tmp 29], argTypes := #[3, 23, 26] }, type := 53, pos := "directory.go:138", after := #[{ on := 1, ground := Ground.data }, { on := 4, ground := Ground.data }, { on := 5, ground := Ground.data }, { on := 4, ground := Ground.chain }], guard := none }) rfl (fun K hK => ?_) AllReadyH.nil
  rw [if_pos (by rfl)]
  show Oper.wp _ _ _ _ K _
  go_simp
  go_at_call 14
  refine (climb_any x.dev d0 hdk.out.1 a 9 c _).mono ?_
  rintro e W2 ⟨rfl, rfl⟩
  obtain ⟨sb, hsb⟩ : ∃ sb, Hid (W1.heap.size = sb) := ⟨_, rfl⟩
  have hts : Hid (tb + 3 ≤ sb) := by have := hHeld.2.2.1.lt; have := hsb.out; show _ ≤ _; omega
  rw [hsb.out]
  generalize hwL : ((W1.alloc _).alloc _).alloc _ = wL
  have hsz : Hid (wL.heap.size = sb + 3) := by show _ = _; rw [← hwL, ← hsb.out]; simp
  have hBV : Hid (Blk wL sb 3 [.int .i64 x.dev]) := by rw [← hwL, ← hsb.out]; exact ((Blk.new W1 _ [.int .i64 x.dev]).alloc _).alloc _
  have hBQ : Hid (Blk wL (sb + 1) 23 (bv d0)) := by
    rw [← hwL, ← hsb.out]
    have := (Blk.new (W1.alloc (.cells #[.int .i64 x.dev] 3)) 23 (bv d0)).alloc (.cells #[.slice a 9 c] 26)
    rwa [World.size_alloc] at this
  have hBP : Hid (Blk wL (sb + 2) 26 [.slice a 9 c]) := by
    rw [← hwL, ← hsb.out]
    have := Blk.new ((W1.alloc (.cells #[.int .i64 x.dev] 3)).alloc (.cells (bv d0).toArray 23)) 26 [.slice a 9 c]
    rwa [World.size_alloc, World.size_alloc] at this
  have hbel : Below W1.heap.size W1 wL := by rw [← hwL]; exact (((Below.refl _ W1).alloc (Nat.le_refl _) _).alloc (by simp) _).alloc (by simp; omega) _
  refine hK.out _ _ (hHeld.next hbel) (fun hHeld2 => ?_)
  clear hHeld hbel hwL hsb
  have hHeld := hHeld2
  clear hHeld2
  clear hK K
  try simp only [Act.put, List.setIfInBounds_toArray, List.set_cons_zero, List.set_cons_succ]
  refine wpAnyH_done (by kernel_rfl) ?_ _
  refine Go.Dj.nopan_normal ?_
  gi_wp2_with fail
  have hlt := hBV.out.lt
  have hszo := hsz.out
  have htso := hts.out
  have htbo := htb.out
  have hdevI := hnn.out.1
  have hseq : SeqOwn (sb + 1) (tb + 2) Fence.wide 5 Tryd.prog 34 #[.pointer (some ⟨sb, 0, none⟩), .pointer (some ⟨sb + 2, 0, none⟩), .pointer (some ⟨sb + 1, 0, none⟩)] encD (fun xs => xs = Go.Dr.climbS nn d0 path) (fun pre => pre <+: Go.Dr.climbS nn d0 path) ExD 9 wL :=
    fun l J Jx W hW hl0 hl1 hJ hY h0 => climbIter_in l sb (sb + 2) (sb + 1) wL.heap.size (tb + 2) nn x.dev d0 path a 9 c w J Jx W hdevI hn2.out HT'.out H'.out hdk.out (by omega) (by omega) (by omega) (by omega) (by omega)
      ((hBV.out.below hW hBV.out.lt).at_ (i := 0) rfl) ((hBP.out.below hW hBP.out.lt).at_ (i := 0) rfl) (hBQ.out.below hW hBQ.out.lt) (.of (hHeld.2.2.2.trans (hW.mono (by omega)))) hJ hY h0
  refine wpIn_range_own (q := sb + 1) (z := tb + 2) (by omega) rfl (by omega) (gf := 34) (lb := #[.pointer (some ⟨sb, 0, none⟩), .pointer (some ⟨sb + 2, 0, none⟩), .pointer (some ⟨sb + 1, 0, none⟩)]) rfl trivial (enters_of Tryd.func34 (by kernel_rfl) rfl)
    hseq (fun _ => rfl) (VrI wL tb root) (fun _ _ _ => False) (vrI_deaf wL tb (sb + 1) root (by omega) (by omega)) (fun c _ _ _ _ h _ _ => h) ⟨hHeld.2.2.1, hHeld.1, Below.refl _ _⟩
    (fun y a' A => ExD y ∧ ∃ g, wL.heap.size ≤ g ∧ Blk A g 23 (bv y.2) ∧ a' = { tmps := #[.agg (bv root).toArray, .agg (gC x).toArray, .bool nx, .slice a 9 c, .pointer (some ⟨tb, 0, none⟩), .pointer (some ⟨tb + 1, 0, none⟩), undef, undef, .pointer (some ⟨tb + 1 + 1, 0, none⟩), .int .i64 (y.1 : Int), .pointer (some ⟨g, 0, none⟩), .pointer (some ⟨tb + 1, 0, none⟩), .int .i64 x.dev, .bool false, .bool false, .pointer (some ⟨tb + 1, 0, none⟩), .int .i64 x.dev, .bool false, .bool false, .bool false, .slice a 9 c, .int .i64 9, .bool false, .bool false, .pointer (some ⟨tb + 1, 0, none⟩), .int .i64 x.dev, .agg #[.int .i64 x.dev, .int .i64 x.ver, .int .i64 x.leaf, .int .i64 x.vers, .bool x.gone], .bool nx, .agg (bv d0).toArray, .slice a 9 c, .func (.func 34) #[] #[.pointer (some ⟨sb, 0, none⟩), .pointer (some ⟨sb + 2, 0, none⟩), .pointer (some ⟨sb + 1, 0, none⟩)], .int .i64 (y.1 : Int), .agg (bv y.2).toArray, undef, undef, undef, undef, undef, undef, undef, undef], defers := [] })
    (fun y a' A C l rc hx hl hg => by
      obtain ⟨hex, g, hgl, hB, e⟩ := hx
      exact ⟨hex, g, hgl, hB.grown hg (fun e => by cases e; rw [show A.heap[_]? = _ from hB] at hl; cases hl), e⟩) ?assign ?body ?done ?stop
  case assign =>
    rintro l pre y A K hI hex hK
    obtain ⟨W2, hP⟩ := put_row (ty := 23) (Blk.new A 23 (bv (List.replicate 32 0))) (x := bv y.2) (by rw [bv_length, bv_length, hex.2.1]; rfl) (by rw [bv_length, hex.2.1]; exact size35) (bv_one y.2)
    have hgw : A.grownBy W2 none := ⟨hP.grown.os, hP.grown.tape, hP.grown.output, Nat.le_trans (by simp) hP.grown.size, fun q hq _ => (hP.grown.block q (by simp; omega) (fun e => by cases e; omega)).trans (Below.heap_alloc A _ q hq)⟩
    have hfin := Lib.hid (fun a' h => hK a' W2 hgw ⟨hex, A.heap.size, hI.2.2.size, hP.blk, h⟩)
    have hP' := Lib.hid hP
    clear hP hK hgw hseq
    gi_wp2_with (first
      | (refine Go.Dj.wpListIn_store_mid (by rfl) 23 (.tmp 10) (.tmp 32) (by rfl) A.heap.size 0 (bv y.2).toArray (by rfl) (by rfl) hP'.out.there hP'.out.info (by simpa using hP'.out.one) ?_
         generalize hWq : World.setCells _ _ _ _ = Wa
         obtain rfl : W2 = Wa := by rw [← hWq]; exact hP'.out.eq
         clear hWq))
    exact hfin.out _ rfl
  case body =>
    rintro l pre y a' A hA hI ⟨hex, g, hgl, hB, rfl⟩ hlen _
    obtain ⟨hO, hR, hbA⟩ := hI
    have f0 := hO.frozen 0
    have o0 := hO.at_ (i := 0) (x := .bool (Go.Dr.lastOk root pre)) rfl
    have hfin : Hid (∀ v, v = Go.Dr.lastOk root (pre ++ [y]) → roundLeft (tb + 2) wL.heap.size (VrI wL tb root) (fun _ _ _ => False) (pre ++ [y]) A .normal { tmps := #[], defers := [] } (A.setCell ⟨tb + 1 + 1, 0, none⟩ (.bool v))) := fun v hv => by
      have hg : A.grownBy (A.setCell ⟨tb + 1 + 1, 0, none⟩ (.bool v)) (some (tb + 2)) := grown_set (World.grownBy.refl A _) (.inl rfl) _
      refine ⟨KeepsFrom.of_grownBy hg (fun j e => by cases e; omega), ⟨hg.size, fun i hi hne => hg.block i (by omega) (fun e => by cases e; exact hne rfl)⟩, ?_, hR.grown hg (fun e => by injection e with e; omega), hbA.grown hg (by have := hbA.size; omega) (fun k e => by cases e; omega)⟩
      rw [← hv]
      exact hO.set 0 _
    rw [show (tb + 2 : Nat) = tb + 1 + 1 from rfl] at f0 o0
    have hsn := Go.Dr.lastOk_snoc root pre y
    by_cases hy1 : y.1 = 1
    · have hy1' : ((y.1 : Int) == 1) = true := by rw [hy1]; rfl
      have heq : ∀ W, (Op.equalIn 10000 23 (.agg (bv y.2).toArray) (.agg (bv root).toArray)).run Tryd.prog W = .ok (decide (y.2 = root)) W := fun W => eq_dig hex.2 hro'.out W
      have hv : Hid (decide (y.2 = root) = Go.Dr.lastOk root (pre ++ [y])) := by show _ = _; rw [hsn, decide_eq_true hy1]; rfl
      have hyr := Lib.hid hB.range
      have hrr := Lib.hid hR.range
      have hyi : Hid ((Tryd.prog.info? 23).map (·.size) = some (bv y.2).length) := by show _ = _; rw [bv_length, hex.2.1]; exact size35
      have hri : Hid ((Tryd.prog.info? 23).map (·.size) = some (bv root).length) := by show _ = _; rw [bv_length, hro'.out.1]; exact size35
      have hu := Tryd.underlying23
      have hfin2 := Lib.hid (hfin.out _ hv.out)
      clear hy1 hex hB hR hO hbA hfin hsn hseq hv
      generalize bv y.2 = D1 at *
      generalize bv root = D2 at *
      generalize decide (y.2 = root) = v at *
      gi_wp2_with (first
        | (refine Go.Dj.wpListIn_load_g (by rfl) 23 (.tmp 10) (by rfl) g 0 (by rfl) D1 _ hyr.out hu (by rfl) hyi.out ?_)
        | (refine Go.Dj.wpListIn_load_g (by rfl) 23 (.tmp 4) (by rfl) tb 0 (by rfl) D2 _ hrr.out hu (by rfl) hri.out ?_))
      exact hfin2.out
    · have hy1' : ((y.1 : Int) == 1) = false := by simp; omega
      have hv : Hid (false = Go.Dr.lastOk root (pre ++ [y])) := by show _ = _; rw [hsn, decide_eq_false hy1]; rfl
      have hfin2 := Lib.hid (hfin.out _ hv.out)
      clear hy1 hex hB hR hO hbA hfin hsn hseq hv
      gi_wp2_with fail
      exact hfin2.out
  case done =>
    rintro D xs W hD hxs ⟨hO, hR, hbA⟩ hK
    have hres2 := hres.out xs hxs
    rw [hres2] at hO
    have c4 := hO.at_ (i := 0) (x := .bool V) rfl
    have f4 := hO.frozen 0
    have hO2 := hO.set 0 (.bool V)
    have hb2 : Below tb wL (W.setCell ⟨tb + 2, 0, none⟩ (.bool V)) := hbA.setCell (p := ⟨tb + 2, 0, none⟩) (by show tb ≤ tb + 2; omega) _
    have hbL : Below w.heap.size w wL := hHeld.2.2.2
    rw [show (tb + 2 : Nat) = tb + 1 + 1 from rfl] at c4 f4 hO2 hb2
    generalize hV2 : W.setCell ⟨tb + 1 + 1, 0, none⟩ (.bool V) = V2 at *
    have hK' : V2.heap[D]? = some (.deferred (some [])) := by rw [← hV2, Below.heap_setCell _ _ _ _ (by show D ≠ tb + 1 + 1; omega)]; exact hK
    have hgp := grownBy_putObj' V2 D (.deferred none)
    have y4 := (hO2.grown hgp (fun e => by cases e; omega)).at_ (i := 0) (x := .bool V) rfl
    have hb3 : Below w.heap.size w V2 := hbL.trans (hb2.mono (Nat.le_of_eq htbo))
    have hbf : Below w.heap.size w (V2.putObj D (.deferred none)) := hb3.grown hgp hb3.size (fun k e => by cases e; omega)
    have hpost : RetBo V w (.returned (.bool V)) (V2.putObj D (.deferred none)) := ⟨rfl, hbf⟩
    clear hO hO2 hR hbA hb2 hb3 hbf hseq hHeld hres2
    gi_wp2_with fail
    refine ⟨by simp, .inl ⟨_, _, rfl, run_takeDeferred hK', .bool V, ?_, hpost⟩⟩
    simp [results, Tryd.f5, go_sem, y4]
  case stop =>
    rintro D c pre W hD hp hf
    exact hf.elim

set_option maxRecDepth 20000 in
set_option maxHeartbeats 4000000 in
theorem verify_no (root : List Nat) (x : Lst) (nx : Bool) (a : Option Addr) (n c : Nat) (_hn : (n : Int) ≤ 9223372036854775807) (w : World) (h : ¬ (0 ≤ x.dev ∧ x.dev < 512 ∧ n = 9)) :
    Calls Tryd.prog 5 #[.agg (bv root).toArray, .agg (gC x).toArray, .bool nx, .slice a n c] w (RetBo false w) := by
  obtain ⟨tb, htb⟩ : ∃ tb, Hid (w.heap.size = tb) := ⟨_, rfl⟩
  have h' := Lib.hid h
  clear h
  go_enter Tryd.func5, Tryd.ntmps5
  go_upto_region 1 with fail
  rw [htb.out]
  generalize hW : World.alloc _ _ = W
  have hX : Hid (Blk W (tb + 1) 25 (gC x)) := by
    rw [← hW, ← htb.out]
    have := (Blk.new (w.alloc (.cells (bv root).toArray 23)) 25 (gC x)).alloc (.cells #[.bool false] 4)
    rwa [World.size_alloc] at this
  have hO : Hid (Blk W (tb + 1 + 1) 4 [.bool false]) := by
    rw [← hW, ← htb.out]
    have := Blk.new ((w.alloc (.cells (bv root).toArray 23)).alloc (.cells (gC x).toArray 25)) 4 [.bool false]
    rwa [World.size_alloc, World.size_alloc] at this
  have hb : Hid (Below w.heap.size w W) := by rw [← hW]; exact (((Below.refl _ w).alloc (Nat.le_refl _) _).alloc (by simp) _).alloc (by simp; omega) _
  clear hW
  have c0 := hX.out.at_ (i := 0) (x := .int .i64 x.dev) rfl
  have c5 := hO.out.at_ (i := 0) (x := .bool false) rfl
  have f5 := hO.out.frozen 0
  have c6 := (hO.out.set 0 (.bool false)).at_ (i := 0) (x := .bool false) rfl
  have hpost : Hid (RetBo false w (.returned (.bool false)) (W.setCell ⟨tb + 1 + 1, 0, none⟩ (.bool false))) := ⟨rfl, hb.out.setCell (p := ⟨tb + 1 + 1, 0, none⟩) (by have := htb.out; show _ ≤ tb + 1 + 1; omega) _⟩
  clear hX hO hb
  have hend : Hid (∀ a : Act, a.tmps.getD 8 undef = .pointer (some ⟨tb + 1 + 1, 0, none⟩) → a.defers = [] → bodyPost Tryd.prog Tryd.f5 (RetBo false w) .ret a (W.setCell ⟨tb + 1 + 1, 0, none⟩ (.bool false))) := fun a h1 h2 => by
    refine bodyPost_ret (v := .bool false) ?_ h2 hpost.out
    have h1' : a.tmps[8]?.getD undef = .pointer (some ⟨tb + 1 + 1, 0, none⟩) := by simpa using h1
    simp [results, Tryd.f5, go_sem, h1', c6]
  by_cases g1 : 0 ≤ x.dev
  · have h1' : decide (x.dev < 0) = false := by simpa using g1
    by_cases g2 : x.dev < 512
    · have h2' : decide (512 ≤ x.dev) = false := by simpa using g2
      have h3 : n ≠ 9 := fun e => h'.out ⟨g1, g2, e⟩
      have h3' : ((n : Int) == 9) = false := by simp; omega
      clear h3
      go_wp2_with fail
      exact hend.out _ rfl rfl
    · have h2' : decide (512 ≤ x.dev) = true := by simpa using g2
      go_wp2_with fail
      exact hend.out _ rfl rfl
  · have h1' : decide (x.dev < 0) = true := by simpa using g1
    go_wp2_with fail
    exact hend.out _ rfl rfl

theorem verify_any (root : List Nat) (hro : Dig root) (x : Lst) (hx : OkG x) (nx : Bool) (path : List (List Nat)) (a : Option Addr) (n c : Nat) (w : World) (HT : Tabs w) (H : DS w a n c path) :
    Calls Tryd.prog 5 #[.agg (bv root).toArray, .agg (gC x).toArray, .bool nx, .slice a n c] w (RetBo (Go.Dr.verP root x nx path) w) := by
  by_cases h : 0 ≤ x.dev ∧ x.dev < 512 ∧ n = 9
  · exact verify_in root hro x hx nx path a n c w HT H h.1 h.2.1 h.2.2
  · have e : Go.Dr.verP root x nx path = false := by
      unfold Go.Dr.verP
      by_cases h1 : 0 ≤ x.dev ∧ x.dev < 512
      · rw [decide_eq_false (p := path.length = 9) (fun e => h ⟨h1.1, h1.2, by rw [← H.len]; exact e⟩)]; simp
      · rw [decide_eq_false h1]; rfl
    rw [e]
    exact verify_no root x nx a n c (by have := H.le; have := H.max; omega) w h

end Go.Proofs.YthnfjkgiaanmhaaDoor
