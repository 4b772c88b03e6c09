/- directory.climb and what it hands out -/
import Derived.Test.YthnfjkgiaanmhaaDoorDiI
import Derived.Test.YthnfjkgiaanmhaaDoorDrQ
namespace Go.Dj
variable {P : Program} {F : Fence} {n : Nat}
theorem wpListIn_load_mid {ops : Array Oper} {rest : List Oper} {op : Oper} {a : Act} {w : World} {Q : Exit → Act → World → Prop} (hgd : op.guard = none) (ty : TypeId) (x : Operand) (ho : op.op = .load ty x)
    (b o : Nat) (hx : a.eval x = .pointer (some ⟨b, o, none⟩)) (cs : List Value) (d : TypeDesc) (hc : w.rangeAt b o cs)
    (hu : P.underlying ty = some d) (hd : d.isRow = true) (hi : (P.info? ty).map (·.size) = some cs.length)
    (h : wpListIn F n P ops Q rest (a.put op.dst (.agg cs.toArray)) w) : wpListIn F n P ops Q (op :: rest) a w := by
  refine wpListIn_plain hgd fun K hK' => ?_
  unfold Oper.wpIn
  refine ⟨?_, ?_⟩
  · simp [Oper.about, ho]
  · rw [Oper.semAt_plain F _ _ (by rw [ho]; intro c hc'; cases hc')]
    unfold execOp
    simp only [ho, hx, Instr.loadAt, Instr.sureAddr, Sem.run_bind, Sem.run_pure, Result.andThen_ok, run_loadVar_mid w b o ty cs d hc hu hd hi]
    exact hK' _ _ h
theorem wpListIn_store_mid {ops : Array Oper} {rest : List Oper} {op : Oper} {a : Act} {w : World} {Q : Exit → Act → World → Prop} (hgd : op.guard = none) (ty : TypeId) (x y : Operand) (ho : op.op = .store ty x y)
    (b o : Nat) (cells : Array Value) (hx : a.eval x = .pointer (some ⟨b, o, none⟩)) (hy : a.eval y = .agg cells)
    (ht : w.there b o cells.size) (hi : (P.info? ty).map (·.size) = some cells.size) (h1 : cells.all (·.oneCell') = true)
    (h : wpListIn F n P ops Q rest (a.put op.dst undef) (w.setCells b o cells.toList)) : wpListIn F n P ops Q (op :: rest) a w := by
  refine wpListIn_plain hgd fun K hK' => ?_
  unfold Oper.wpIn
  refine ⟨?_, ?_⟩
  · simp [Oper.about, ho]
  · rw [Oper.semAt_plain F _ _ (by rw [ho]; intro c hc'; cases hc')]
    unfold execOp
    simp only [ho, hx, hy, Instr.storeAt, Instr.sureAddr, Sem.run_bind, Sem.run_pure, Result.andThen_ok, run_storeVar_mid w b o ty cells ht hi h1]
    exact hK' _ _ h
end Go.Dj
namespace Go.Proofs.YthnfjkgiaanmhaaDoor
open Go.RowKit Go.Mem Go.Shelf
open Go.Dr (Lst Rt)
attribute [local go_sem] Oper.semAt_some

/-- all blocks of a world are as they were. -/
structure Kp (w w' : World) : Prop where
  size : w.heap.size ≤ w'.heap.size
  block : ∀ i, i < w.heap.size → w'.heap[i]? = w.heap[i]?
section
variable {w w' w2 : World}
theorem Kp.refl (w : World) : Kp w w := ⟨Nat.le_refl _, fun _ _ => rfl⟩
theorem Kp.trans (h : Kp w w') (k : Kp w' w2) : Kp w w2 := ⟨Nat.le_trans h.size k.size, fun i hi => (k.block i (Nat.lt_of_lt_of_le hi h.size)).trans (h.block i hi)⟩
theorem Kp.of (h : Below w.heap.size w w') : Kp w w' := ⟨h.size, h.block⟩
theorem Kp.below (h : Kp w w') : Below w.heap.size w { w' with os := w.os, tape := w.tape, output := w.output } := ⟨rfl, rfl, rfl, h.size, h.block⟩
theorem Kp.cell (h : Kp w w') {p : Addr} (hb : p.block < w.heap.size) : w'.cell? p = w.cell? p := World.cell?_of_block (h.block p.block hb)
theorem Kp.grown {row : Option Nat} (h : Kp w w') (hg : w'.grownBy w2 row) (hr : ∀ r, row = some r → w.heap.size ≤ r) : Kp w w2 := ⟨Nat.le_trans h.size hg.size, fun i hi => (hg.block i (Nat.lt_of_lt_of_le hi h.size) (fun e => by have := hr i e.symm; omega)).trans (h.block i hi)⟩
theorem Tabs.kp (h : Tabs w) (k : Kp w w') : Tabs w' := by
  have := Tabs.below h k.below
  exact this
theorem DS.kp {a : Option Addr} {n c : Nat} {l : List (List Nat)} (h : DS w a n c l) (k : Kp w w') : DS w' a n c l :=
  ⟨h.len, h.le, h.max, h.nil, fun hn ad e => by
    obtain ⟨b, off, rfl, hlt, hx⟩ := h.cells hn ad e
    exact ⟨b, off, rfl, Nat.lt_of_lt_of_le hlt k.size, fun i x hi j v hv => (k.cell (p := ⟨b, _, none⟩) hlt).trans (hx i x hi j v hv)⟩, h.ok⟩
theorem Blk.kp {g : Nat} {t : TypeId} {cs : List Value} (h : Blk w g t cs) (k : Kp w w') : Blk w' g t cs := (k.block g h.lt).trans h
end

abbrev encD (x : Nat × List Nat) : Array Value := #[.int .i64 (x.1 : Int), .agg (bv x.2).toArray]
def ExD (x : Nat × List Nat) : Prop := x.1 < 1024 ∧ x.2.length = 32 ∧ ∀ u ∈ x.2, u < 256

set_option maxRecDepth 20000 in
set_option maxHeartbeats 8000000 in
theorem climbIter_in (l vb pb qb B z nn : Nat) (dev : Int) (d0 : List Nat) (path : List (List Nat)) (a : Option Addr) (n c : Nat) (w0 : World) (J Jx : List (Nat × List Nat) → World → Prop) (W : World)
    (hnn : 512 + dev = (nn : Int)) (hn2 : nn < 1024) (HT : Tabs w0) (H : DS w0 a n c path) (hd0 : d0.length = 32 ∧ ∀ u ∈ d0, u < 256)
    (hz : w0.heap.size ≤ z) (hB : w0.heap.size ≤ B) (hqB : qb < B) (hqz : qb ≠ z) (hq0 : w0.heap.size ≤ qb)
    (hV : W.cell? ⟨vb, 0, none⟩ = some (.int .i64 dev)) (hP : W.cell? ⟨pb, 0, none⟩ = some (.slice a n c)) (hQ : Blk W qb 23 (bv d0)) (hW : Kp w0 W)
    (hJ : Deaf (fun r => r = qb) J)
    (hY : ∀ pre x A, J pre A → pre.length < n → ExD x → YieldAt Fence.wide 4 Tryd.prog l (encD x) A fun e C =>
      (e = .returned (.bool true) ∧ J (pre ++ [x]) C ∧ KpZ B z A C) ∨ (e = .returned (.bool false) ∧ Jx (pre ++ [x]) C))
    (h0 : J [] W) :
    CallsIn Fence.wide 5 Tryd.prog 34 #[.func (.yield l) #[] #[], .pointer (some ⟨vb, 0, none⟩), .pointer (some ⟨pb, 0, none⟩), .pointer (some ⟨qb, 0, none⟩)] W fun e C => (∃ v, e = .returned v) ∧
      ((∃ xs, xs = Go.Dr.climbS nn d0 path ∧ J xs C) ∨ (∃ pre, pre <+: Go.Dr.climbS nn d0 path ∧ Jx pre C)) := by
  have hlen := H.len
  have n63 : (n : Int) ≤ 9223372036854775807 := by have := H.le; have := H.max; omega
  have hwr : IntKind.i64.wrap (512 + dev) = (nn : Int) := by rw [hnn]; exact IntWalk.i64_in _ (by omega)
  have hpa := Lib.hid (fun (x y : List Nat) (h1 : x.length = 32) (h2 : y.length = 32) (h3 : ∀ u ∈ x, u < 256) (h4 : ∀ u ∈ y, u < 256) W (hT : Tabs W) => callsIn_wide (n := 4).2 (pair_any x y h1 h2 h3 h4 W hT))
  have H' := Lib.hid H; have HT' := Lib.hid HT; have hd0' := Lib.hid hd0; have hY' := Lib.hid hY
  have hW' := Lib.hid hW; have hQ' := Lib.hid hQ; have hJ' := Lib.hid hJ
  clear H HT hd0 hY hnn hW hQ hJ
  refine callsIn_of_wp Tryd.func34 rfl trivial ?_ rfl
  simp only [Tryd.ntmps34, List.size_toArray, List.length_cons, List.length_nil, Nat.reduceAdd, Nat.reduceSub, Array.replicate_succ, Array.replicate_zero, List.push_toArray, List.append_toArray, List.nil_append, List.cons_append]
  gi_wp2_with fail
  clear hwr hV hP
  gi_loopw [5, 12] (fun nd i wr => ∃ k : Nat, k ≤ n ∧ nd = .int .i64 ((nn / 2 ^ k : Nat) : Int) ∧ i = .int .i64 k ∧ J ((Go.Dr.climbS nn d0 path).take k) wr ∧ Hid (Kp w0 wr) ∧ Hid (Blk wr qb 23 (bv (Go.Dr.climbD nn d0 (path.take k)))))
    (fun _ i _ => n - (intOf i).toNat)
  case atStart => exact ⟨0, Nat.zero_le _, by rw [Nat.pow_zero, Nat.div_one], rfl, h0, hW', hQ'⟩
  case round =>
    obtain ⟨k, hk, rfl, rfl, hJs, hkp, hqb⟩ := hrel
    by_cases hlt : k < n
    · have hkl : k < path.length := by omega
      have hxe : path[k]? = some path[k] := List.getElem?_eq_getElem hkl
      have hxo := H'.out.ok path[k] (List.getElem_mem hkl)
      have htk := Go.Dr.climbS_take nn d0 path k hkl
      have hst := Go.Dr.climbD_take nn d0 path k path[k] hxe
      have hdl := Go.Dr.climbD_take_length nn hd0'.out.1 path k
      have hdu := Go.Dr.climbD_take_lt nn hd0'.out.2 path k
      have hpl : ((Go.Dr.climbS nn d0 path).take k).length < n := by rw [List.length_take, Go.Dr.climbS_length]; omega
      have hm2 : nn / 2 ^ k < 1024 := Nat.lt_of_le_of_lt (Nat.div_le_self _ _) hn2
      have hmd : nn / 2 ^ (k + 1) = nn / 2 ^ k / 2 := by rw [Nat.pow_succ, ← Nat.div_div_eq_div_mul]
      obtain ⟨ad, rfl⟩ : ∃ ad, a = some ad := by
        cases a with
        | none => have := H'.out.nil rfl; omega
        | some ad => exact ⟨ad, rfl⟩
      obtain ⟨b, off, rfl, hbl, hcs⟩ := (H'.out.kp hkp.out).cells (by omega) ad rfl
      have hrg0 := hcs k _ hxe
      rw [Nat.mul_comm] at hrg0
      rw [hmd] at htk
      rw [hst] at htk
      have hmd' := Lib.hid hmd
      have hst' := Lib.hid hst
      clear hmd hst hcs hxe
      generalize path[k] = x at *
      generalize Go.Dr.climbD nn d0 (path.take k) = dk at *
      generalize nn / 2 ^ k = m at *
      obtain ⟨d2, hd2⟩ : ∃ d2, Hid (Go.Dr.stepD m dk x = d2) := ⟨_, rfl⟩
      have hd2l : Hid (d2.length = 32 ∧ ∀ u ∈ d2, u < 256) := by rw [← hd2.out]; exact ⟨Go.Dr.stepD_length _ _ _, Go.Dr.stepD_lt _ _ _⟩
      have hst2 : Hid (Go.Dr.climbD nn d0 (path.take (k + 1)) = d2) := by show _ = _; rw [hst'.out, hd2.out]
      rw [hd2.out] at htk
      obtain ⟨m2, hm2e⟩ : ∃ m2, Hid (m / 2 = m2) := ⟨_, rfl⟩
      rw [hm2e.out] at htk hmd'
      obtain ⟨W2, hPx⟩ := put_row (ty := 23) (Blk.new wr 23 (bv (List.replicate 32 0))) (x := bv x) (by rw [bv_length, bv_length, hxo.1]; rfl) (by rw [bv_length, hxo.1]; exact size35) (bv_one x)
      have hgw : wr.grownBy W2 none := ⟨hPx.grown.os, hPx.grown.tape, hPx.grown.output, Nat.le_trans (by simp) hPx.grown.size, fun q hq _ => (hPx.grown.block q (by simp; omega) (fun e => by cases e; omega)).trans (Below.heap_alloc wr _ q hq)⟩
      have hJ1 := Lib.hid (hJ'.out.none hJs hgw)
      have hk2 := Lib.hid (hkp.out.grown hgw (fun r e => by cases e))
      have hq2 := Lib.hid (hqb.out.grown hgw (by simp))
      have hP' := Lib.hid hPx
      have htk' := Lib.hid htk
      have hxo' := Lib.hid hxo
      have hdk' := Lib.hid (And.intro hdl hdu)
      have hrg := Lib.hid hrg0
      have hdi : Hid ((Tryd.prog.info? 23).map (·.size) = some (bv x).length) := by show _ = _; rw [bv_length, hxo.1]; exact size35
      have hdi2 : Hid ((Tryd.prog.info? 23).map (·.size) = some (bv dk).length) := by show _ = _; rw [bv_length, hdl]; exact size35
      have hqr := Lib.hid hq2.out.range
      have hxr := Lib.hid hPx.blk.range
      have hdv1 : (m : Int) / 2 = (m2 : Int) := by rw [← hm2e.out]; omega
      have hdv2 : Int.tdiv (m : Int) 2 = (m2 : Int) := by rw [Int.tdiv_eq_ediv_of_nonneg (by omega)]; exact hdv1
      have hb0 : (0 : Int) ≤ (m2 : Int) := by omega
      have hb1 : (m2 : Int) < 1024 := by have := hm2e.out; omega
      have k0 : (0 : Int) ≤ (k : Int) := by omega
      have k1 : (k : Int) < (n : Int) := by omega
      have hm2' := Lib.hid hm2
      have hpl' := Lib.hid hpl
      have hand : bits BinOp.and IntKind.i64 (m : Int) 1 = ((m % 2 : Nat) : Int) := and_one ⟨m, hm2⟩
      clear hPx hJs hgw hxo hdl hdu hrg0 htk hst' hqb hkp hbl hkl hm2 hpl h0
      by_cases hpar : m % 2 = 0
      · have hand2 : bits BinOp.and IntKind.i64 (m : Int) 1 = 0 := by rw [hand]; show ((m % 2 : Nat) : Int) = 0; omega
        have hpc := Lib.hid (fun W hT => hpa.out dk x hdk'.out.1 hxo'.out.1 hdk'.out.2 hxo'.out.2 W hT)
        have hpd : Hid (Go.Dr.pairD dk x = d2) := by show _ = _; rw [← hd2.out, Go.Dr.stepD_eq, if_pos hpar]
        rw [hpd.out] at hpc
        clear hand hpar hpa hd2
        gi_wp2_with (first
          | (refine Go.Dj.wpListIn_load_mid (by rfl) 23 (.tmp 14) (by rfl) b (off + k * 32) (by rfl) (bv x) _ hrg.out Tryd.underlying23 (by rfl) hdi.out ?_)
          | (refine Go.Dj.wpListIn_store_mid (by rfl) 23 (.tmp 7) (.tmp 15) (by rfl) wr.heap.size 0 (bv x).toArray (by rfl) (by rfl) hP'.out.there hP'.out.info (by simpa using hP'.out.one) ?_
             generalize hWq : World.setCells _ _ _ _ = Wa
             obtain rfl : W2 = Wa := by rw [← hWq]; exact hP'.out.eq
             clear hWq)
          | (refine Go.Dj.wpListIn_load_mid (by rfl) 23 (.tmp 3) (by rfl) qb 0 (by rfl) (bv dk) _ hqr.out Tryd.underlying23 (by rfl) hdi2.out ?_)
          | (refine Go.Dj.wpListIn_load_mid (by rfl) 23 (.tmp 7) (by rfl) wr.heap.size 0 (by rfl) (bv x) _ hxr.out Tryd.underlying23 (by rfl) hdi.out ?_))
        refine ⟨trivial, (hpc.out _ (HT'.out.kp hk2.out)).mono ?_⟩
        rintro e w3 ⟨rfl, hb3⟩
        have hq3 := hq2.out.below hb3 hq2.out.lt
        obtain ⟨W4, hP4⟩ := put_row (ty := 23) hq3 (x := bv d2) (by rw [bv_length, bv_length, hd2l.out.1, hdk'.out.1]) (by rw [bv_length, hd2l.out.1]; exact size35) (bv_one d2)
        have hJ4 : J ((Go.Dr.climbS nn d0 path).take k) W4 := hJ'.out _ _ _ _ (hJ'.out.none hJ1.out (grown_of_below hb3 none)) hP4.grown (fun r e => by cases e; rfl)
        have hk4 := Lib.hid ((hk2.out.trans (.of hb3)).grown hP4.grown (fun r e => by cases e; exact hq0))
        have hY1 := hY'.out _ (m2, d2) _ hJ4 hpl'.out ⟨by rw [← hm2e.out]; have := hm2'.out; show m / 2 < 1024; omega, hd2l.out⟩
        rw [← htk'.out] at hY1
        have hY1 : YieldAt Fence.wide 4 Tryd.prog l #[.int .i64 (m2 : Int), .agg (bv d2).toArray] W4 _ := hY1
        obtain ⟨fn, tmps, assign, body, hy, hR⟩ := hY1
        have hR' := Lib.hid hR
        have hP4' := Lib.hid hP4
        have hq4 := Lib.hid hP4.blk
        have hqr4 := Lib.hid hP4.blk.range
        have hdi4 : Hid ((Tryd.prog.info? 23).map (·.size) = some (bv d2).length) := by show _ = _; rw [bv_length, hd2l.out.1]; exact size35
        clear hR hP4 hJ4 hq3 hb3 hJ1 hq2 hqr hxr hP' hpc hY' hk2 hrg
        gi_wp2_with (first
          | (refine Go.Dj.wpListIn_store_mid (by rfl) 23 (.tmp 3) (.tmp 21) (by rfl) qb 0 (bv d2).toArray (by rfl) (by rfl) hP4'.out.there hP4'.out.info (by simpa using hP4'.out.one) ?_
             generalize hWq : World.setCells _ _ _ _ = Wa
             obtain rfl : W4 = Wa := by rw [← hWq]; exact hP4'.out.eq
             clear hWq)
          | (refine Go.Dj.wpListIn_load_mid (by rfl) 23 (.tmp 3) (by rfl) qb 0 (by rfl) (bv d2) _ hqr4.out Tryd.underlying23 (by rfl) hdi4.out ?_))
        clear hP4' hqr4 hy
        refine hR'.out.mono ?_
        rintro e2 W5 (⟨rfl, hJ5, hk5⟩ | ⟨rfl, hJx5⟩)
        · have hq5 : Hid (Blk W5 qb 23 (bv d2)) := (hk5.2 qb hqB hqz).trans hq4.out
          have hk6 : Hid (Kp w0 W5) := ⟨Nat.le_trans hk4.out.size hk5.1, fun i hi => (hk5.2 i (by omega) (by omega)).trans (hk4.out.block i hi)⟩
          gi_wp2_with fail
          go_roundw
          case rel => exact ⟨k + 1, by omega, by rw [hmd'.out], by go_num, hJ5, hk6, by rw [hst2.out]; exact hq5⟩
          case measure => simp [intOf]; omega
        · gi_wp2_with fail
          refine bodyPost_ret (results_none rfl _ _ _) rfl ?_
          exact ⟨⟨_, rfl⟩, .inr ⟨_, List.take_prefix _ _, hJx5⟩⟩
      · have hand2 : bits BinOp.and IntKind.i64 (m : Int) 1 = 1 := by rw [hand]; show ((m % 2 : Nat) : Int) = 1; omega
        have hpc := Lib.hid (fun W hT => hpa.out x dk hxo'.out.1 hdk'.out.1 hxo'.out.2 hdk'.out.2 W hT)
        have hpd : Hid (Go.Dr.pairD x dk = d2) := by show _ = _; rw [← hd2.out, Go.Dr.stepD_eq, if_neg hpar]
        rw [hpd.out] at hpc
        clear hand hpar hpa hd2
        gi_wp2_with (first
          | (refine Go.Dj.wpListIn_load_mid (by rfl) 23 (.tmp 14) (by rfl) b (off + k * 32) (by rfl) (bv x) _ hrg.out Tryd.underlying23 (by rfl) hdi.out ?_)
          | (refine Go.Dj.wpListIn_store_mid (by rfl) 23 (.tmp 7) (.tmp 15) (by rfl) wr.heap.size 0 (bv x).toArray (by rfl) (by rfl) hP'.out.there hP'.out.info (by simpa using hP'.out.one) ?_
             generalize hWq : World.setCells _ _ _ _ = Wa
             obtain rfl : W2 = Wa := by rw [← hWq]; exact hP'.out.eq
             clear hWq)
          | (refine Go.Dj.wpListIn_load_mid (by rfl) 23 (.tmp 3) (by rfl) qb 0 (by rfl) (bv dk) _ hqr.out Tryd.underlying23 (by rfl) hdi2.out ?_)
          | (refine Go.Dj.wpListIn_load_mid (by rfl) 23 (.tmp 7) (by rfl) wr.heap.size 0 (by rfl) (bv x) _ hxr.out Tryd.underlying23 (by rfl) hdi.out ?_))
        refine ⟨trivial, (hpc.out _ (HT'.out.kp hk2.out)).mono ?_⟩
        rintro e w3 ⟨rfl, hb3⟩
        have hq3 := hq2.out.below hb3 hq2.out.lt
        obtain ⟨W4, hP4⟩ := put_row (ty := 23) hq3 (x := bv d2) (by rw [bv_length, bv_length, hd2l.out.1, hdk'.out.1]) (by rw [bv_length, hd2l.out.1]; exact size35) (bv_one d2)
        have hJ4 : J ((Go.Dr.climbS nn d0 path).take k) W4 := hJ'.out _ _ _ _ (hJ'.out.none hJ1.out (grown_of_below hb3 none)) hP4.grown (fun r e => by cases e; rfl)
        have hk4 := Lib.hid ((hk2.out.trans (.of hb3)).grown hP4.grown (fun r e => by cases e; exact hq0))
        have hY1 := hY'.out _ (m2, d2) _ hJ4 hpl'.out ⟨by rw [← hm2e.out]; have := hm2'.out; show m / 2 < 1024; omega, hd2l.out⟩
        rw [← htk'.out] at hY1
        have hY1 : YieldAt Fence.wide 4 Tryd.prog l #[.int .i64 (m2 : Int), .agg (bv d2).toArray] W4 _ := hY1
        obtain ⟨fn, tmps, assign, body, hy, hR⟩ := hY1
        have hR' := Lib.hid hR
        have hP4' := Lib.hid hP4
        have hq4 := Lib.hid hP4.blk
        have hqr4 := Lib.hid hP4.blk.range
        have hdi4 : Hid ((Tryd.prog.info? 23).map (·.size) = some (bv d2).length) := by show _ = _; rw [bv_length, hd2l.out.1]; exact size35
        clear hR hP4 hJ4 hq3 hb3 hJ1 hq2 hqr hxr hP' hpc hY' hk2 hrg
        gi_wp2_with (first
          | (refine Go.Dj.wpListIn_store_mid (by rfl) 23 (.tmp 3) (.tmp 24) (by rfl) qb 0 (bv d2).toArray (by rfl) (by rfl) hP4'.out.there hP4'.out.info (by simpa using hP4'.out.one) ?_
             generalize hWq : World.setCells _ _ _ _ = Wa
             obtain rfl : W4 = Wa := by rw [← hWq]; exact hP4'.out.eq
             clear hWq)
          | (refine Go.Dj.wpListIn_load_mid (by rfl) 23 (.tmp 3) (by rfl) qb 0 (by rfl) (bv d2) _ hqr4.out Tryd.underlying23 (by rfl) hdi4.out ?_))
        clear hP4' hqr4 hy
        refine hR'.out.mono ?_
        rintro e2 W5 (⟨rfl, hJ5, hk5⟩ | ⟨rfl, hJx5⟩)
        · have hq5 : Hid (Blk W5 qb 23 (bv d2)) := (hk5.2 qb hqB hqz).trans hq4.out
          have hk6 : Hid (Kp w0 W5) := ⟨Nat.le_trans hk4.out.size hk5.1, fun i hi => (hk5.2 i (by omega) (by omega)).trans (hk4.out.block i hi)⟩
          gi_wp2_with fail
          go_roundw
          case rel => exact ⟨k + 1, by omega, by rw [hmd'.out], by go_num, hJ5, hk6, by rw [hst2.out]; exact hq5⟩
          case measure => simp [intOf]; omega
        · gi_wp2_with fail
          refine bodyPost_ret (results_none rfl _ _ _) rfl ?_
          exact ⟨⟨_, rfl⟩, .inr ⟨_, List.take_prefix _ _, hJx5⟩⟩
    · obtain rfl : k = n := by omega
      rw [List.take_of_length_le (by rw [Go.Dr.climbS_length]; omega)] at hJs
      gi_wp2_with fail
      refine bodyPost_end (results_none rfl _ _ _) rfl ?_
      exact ⟨⟨_, rfl⟩, .inl ⟨_, rfl, hJs⟩⟩

/-- climb makes three boxes and an iterator. -/
theorem climb_any (dev : Int) (d : List Nat) (_hd : d.length = 32) (a : Option Addr) (n c : Nat) (w : World) :
    Calls Tryd.prog 14 #[.int .i64 dev, .agg (bv d).toArray, .slice a n c] w (fun e w' => e = .returned (.func (.func 34) #[] #[.pointer (some ⟨w.heap.size, 0, none⟩), .pointer (some ⟨w.heap.size + 2, 0, none⟩), .pointer (some ⟨w.heap.size + 1, 0, none⟩)]) ∧
      w' = ((w.alloc (.cells #[.int .i64 dev] 3)).alloc (.cells (bv d).toArray 23)).alloc (.cells #[.slice a n c] 26)) := by
  go_enter Tryd.func14, Tryd.ntmps14
  go_wp2_with fail
  go_returns
  exact ⟨rfl, rfl⟩
end Go.Proofs.YthnfjkgiaanmhaaDoor
