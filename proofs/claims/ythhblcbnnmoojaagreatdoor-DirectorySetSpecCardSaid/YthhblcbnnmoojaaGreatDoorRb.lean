/- directory.Verify -/
import Derived.Test.YthhblcbnnmoojaaGreatDoorRa
import Derived.Test.YthhblcbnnmoojaaGreatDoorDrQ
import Derived.Stop.RegionWithIn
import Derived.Sort.CutIn
import Derived.ControlIn
namespace Go.Dj
variable {P : Program} {F : Fence} {n : Nat}
theorem wpListIn_load_mid {ops : Array Oper} {rest : List Oper} {op : Oper} {a : Act} {w : World} {Q : Exit → Act → World → Prop} (hgd : op.guard = none) (ty : TypeId) (x : Operand) (ho : op.op = .load ty x)
    (b o : Nat) (hx : a.eval x = .pointer (some ⟨b, o, none⟩)) (cs : List Value) (d : TypeDesc) (hc : w.rangeAt b o cs)
    (hu : P.underlying ty = some d) (hd : d.isRow = true) (hi : (P.info? ty).map (·.size) = some cs.length)
    (h : wpListIn F n P ops Q rest (a.put op.dst (.agg cs.toArray)) w) : wpListIn F n P ops Q (op :: rest) a w := by
  refine wpListIn_plain hgd fun K hK' => ?_
  unfold Oper.wpIn
  refine ⟨?_, ?_⟩
  · simp [Oper.about, ho]
  · rw [Oper.semAt_plain F _ _ (by rw [ho]; intro c hc'; cases hc')]
    unfold execOp
    simp only [ho, hx, Instr.loadAt, Instr.sureAddr, Sem.run_bind, Sem.run_pure, Result.andThen_ok, run_loadVar_mid w b o ty cs d hc hu hd hi]
    exact hK' _ _ h
theorem wpListIn_store_mid {ops : Array Oper} {rest : List Oper} {op : Oper} {a : Act} {w : World} {Q : Exit → Act → World → Prop} (hgd : op.guard = none) (ty : TypeId) (x y : Operand) (ho : op.op = .store ty x y)
    (b o : Nat) (cells : Array Value) (hx : a.eval x = .pointer (some ⟨b, o, none⟩)) (hy : a.eval y = .agg cells)
    (ht : w.there b o cells.size) (hi : (P.info? ty).map (·.size) = some cells.size) (h1 : cells.all (·.oneCell') = true)
    (h : wpListIn F n P ops Q rest (a.put op.dst undef) (w.setCells b o cells.toList)) : wpListIn F n P ops Q (op :: rest) a w := by
  refine wpListIn_plain hgd fun K hK' => ?_
  unfold Oper.wpIn
  refine ⟨?_, ?_⟩
  · simp [Oper.about, ho]
  · rw [Oper.semAt_plain F _ _ (by rw [ho]; intro c hc'; cases hc')]
    unfold execOp
    simp only [ho, hx, hy, Instr.storeAt, Instr.sureAddr, Sem.run_bind, Sem.run_pure, Result.andThen_ok, run_storeVar_mid w b o ty cells ht hi h1]
    exact hK' _ _ h
end Go.Dj
namespace Go.Proofs.YthhblcbnnmoojaaGreatDoor
open Go.RowKit Go.Mem Go.Shelf
open Go.Dr (Lst Rt)
attribute [local go_sem] Oper.semAt_some

/-- all blocks of a world are as they were. -/
structure Kp (w w' : World) : Prop where
  size : w.heap.size ≤ w'.heap.size
  block : ∀ i, i < w.heap.size → w'.heap[i]? = w.heap[i]?
section
variable {w w' w2 : World}
theorem Kp.refl (w : World) : Kp w w := ⟨Nat.le_refl _, fun _ _ => rfl⟩
theorem Kp.trans (h : Kp w w') (k : Kp w' w2) : Kp w w2 := ⟨Nat.le_trans h.size k.size, fun i hi => (k.block i (Nat.lt_of_lt_of_le hi h.size)).trans (h.block i hi)⟩
theorem Kp.of (h : Below w.heap.size w w') : Kp w w' := ⟨h.size, h.block⟩
theorem Kp.below (h : Kp w w') : Below w.heap.size w { w' with os := w.os, tape := w.tape, output := w.output } := ⟨rfl, rfl, rfl, h.size, h.block⟩
theorem Kp.cell (h : Kp w w') {p : Addr} (hb : p.block < w.heap.size) : w'.cell? p = w.cell? p := World.cell?_of_block (h.block p.block hb)
theorem Kp.grown {row : Option Nat} (h : Kp w w') (hg : w'.grownBy w2 row) (hr : ∀ r, row = some r → w.heap.size ≤ r) : Kp w w2 := ⟨Nat.le_trans h.size hg.size, fun i hi => (hg.block i (Nat.lt_of_lt_of_le hi h.size) (fun e => by have := hr i e.symm; omega)).trans (h.block i hi)⟩
theorem Tabs.kp (h : Tabs w) (k : Kp w w') : Tabs w' := by
  have := Tabs.below h k.below
  exact this
theorem DS.kp {a : Option Addr} {n c : Nat} {l : List (List Nat)} (h : DS w a n c l) (k : Kp w w') : DS w' a n c l :=
  ⟨h.len, h.le, h.max, h.nil, fun hn ad e => by
    obtain ⟨b, off, rfl, hlt, hx⟩ := h.cells hn ad e
    exact ⟨b, off, rfl, Nat.lt_of_lt_of_le hlt k.size, fun i x hi j v hv => (k.cell (p := ⟨b, _, none⟩) hlt).trans (hx i x hi j v hv)⟩, h.ok⟩
theorem Blk.kp {g : Nat} {t : TypeId} {cs : List Value} (h : Blk w g t cs) (k : Kp w w') : Blk w' g t cs := (k.block g h.lt).trans h
end

abbrev encD (x : Nat × List Nat) : Array Value := #[.int .i64 (x.1 : Int), .agg (bv x.2).toArray]
def ExD (x : Nat × List Nat) : Prop := x.1 < 1024 ∧ x.2.length = 32 ∧ ∀ u ∈ x.2, u < 256

set_option maxRecDepth 20000 in
set_option maxHeartbeats 8000000 in
theorem climbIter_in (l vb pb qb B z nn : Nat) (dev : Int) (d0 : List Nat) (path : List (List Nat)) (a : Option Addr) (n c : Nat) (w0 : World) (J Jx : List (Nat × List Nat) → World → Prop) (W : World)
    (hnn : 512 + dev = (nn : Int)) (hn2 : nn < 1024) (HT : Tabs w0) (H : DS w0 a n c path) (hd0 : d0.length = 32 ∧ ∀ u ∈ d0, u < 256)
    (hz : w0.heap.size ≤ z) (hB : w0.heap.size ≤ B) (hqB : qb < B) (hqz : qb ≠ z) (hq0 : w0.heap.size ≤ qb)
    (hV : W.cell? ⟨vb, 0, none⟩ = some (.int .i64 dev)) (hP : W.cell? ⟨pb, 0, none⟩ = some (.slice a n c)) (hQ : Blk W qb 23 (bv d0)) (hW : Kp w0 W)
    (hJ : Deaf (fun r => r = qb) J)
    (hY : ∀ pre x A, J pre A → pre.length < n → ExD x → YieldAt Fence.wide 4 Tryz.prog l (encD x) A fun e C =>
      (e = .returned (.bool true) ∧ J (pre ++ [x]) C ∧ KpZ B z A C) ∨ (e = .returned (.bool false) ∧ Jx (pre ++ [x]) C))
    (h0 : J [] W) :
    CallsIn Fence.wide 5 Tryz.prog 123 #[.func (.yield l) #[] #[], .pointer (some ⟨vb, 0, none⟩), .pointer (some ⟨pb, 0, none⟩), .pointer (some ⟨qb, 0, none⟩)] W fun e C => (∃ v, e = .returned v) ∧
      ((∃ xs, xs = Go.Dr.climbS nn d0 path ∧ J xs C) ∨ (∃ pre, pre <+: Go.Dr.climbS nn d0 path ∧ Jx pre C)) := by
  have hlen := H.len
  have n63 : (n : Int) ≤ 9223372036854775807 := by have := H.le; have := H.max; omega
  have hwr : IntKind.i64.wrap (512 + dev) = (nn : Int) := by rw [hnn]; exact IntWalk.i64_in _ (by omega)
  have hpa := Lib.hid (fun (x y : List Nat) (h1 : x.length = 32) (h2 : y.length = 32) (h3 : ∀ u ∈ x, u < 256) (h4 : ∀ u ∈ y, u < 256) W (hT : Tabs W) => callsIn_wide (n := 4).2 (pair_any x y h1 h2 h3 h4 W hT))
  have H' := Lib.hid H; have HT' := Lib.hid HT; have hd0' := Lib.hid hd0; have hY' := Lib.hid hY
  have hW' := Lib.hid hW; have hQ' := Lib.hid hQ; have hJ' := Lib.hid hJ
  clear H HT hd0 hY hnn hW hQ hJ
  refine callsIn_of_wp Tryz.func123 rfl trivial ?_ rfl
  simp only [Tryz.ntmps123, List.size_toArray, List.length_cons, List.length_nil, Nat.reduceAdd, Nat.reduceSub, Array.replicate_succ, Array.replicate_zero, List.push_toArray, List.append_toArray, List.nil_append, List.cons_append]
  gi_wp2_with fail
  clear hwr hV hP
  gi_loopw [5, 12] (fun nd i wr => ∃ k : Nat, k ≤ n ∧ nd = .int .i64 ((nn / 2 ^ k : Nat) : Int) ∧ i = .int .i64 k ∧ J ((Go.Dr.climbS nn d0 path).take k) wr ∧ Hid (Kp w0 wr) ∧ Hid (Blk wr qb 23 (bv (Go.Dr.climbD nn d0 (path.take k)))))
    (fun _ i _ => n - (intOf i).toNat)
  case atStart => exact ⟨0, Nat.zero_le _, by rw [Nat.pow_zero, Nat.div_one], rfl, h0, hW', hQ'⟩
  case round =>
    obtain ⟨k, hk, rfl, rfl, hJs, hkp, hqb⟩ := hrel
    by_cases hlt : k < n
    · have hkl : k < path.length := by omega
      have hxe : path[k]? = some path[k] := List.getElem?_eq_getElem hkl
      have hxo := H'.out.ok path[k] (List.getElem_mem hkl)
      have htk := Go.Dr.climbS_take nn d0 path k hkl
      have hst := Go.Dr.climbD_take nn d0 path k path[k] hxe
      have hdl := Go.Dr.climbD_take_length nn hd0'.out.1 path k
      have hdu := Go.Dr.climbD_take_lt nn hd0'.out.2 path k
      have hpl : ((Go.Dr.climbS nn d0 path).take k).length < n := by rw [List.length_take, Go.Dr.climbS_length]; omega
      have hm2 : nn / 2 ^ k < 1024 := Nat.lt_of_le_of_lt (Nat.div_le_self _ _) hn2
      have hmd : nn / 2 ^ (k + 1) = nn / 2 ^ k / 2 := by rw [Nat.pow_succ, ← Nat.div_div_eq_div_mul]
      obtain ⟨ad, rfl⟩ : ∃ ad, a = some ad := by
        cases a with
        | none => have := H'.out.nil rfl; omega
        | some ad => exact ⟨ad, rfl⟩
      obtain ⟨b, off, rfl, hbl, hcs⟩ := (H'.out.kp hkp.out).cells (by omega) ad rfl
      have hrg0 := hcs k _ hxe
      rw [Nat.mul_comm] at hrg0
      rw [hmd] at htk
      rw [hst] at htk
      have hmd' := Lib.hid hmd
      have hst' := Lib.hid hst
      clear hmd hst hcs hxe
      generalize path[k] = x at *
      generalize Go.Dr.climbD nn d0 (path.take k) = dk at *
      generalize nn / 2 ^ k = m at *
      obtain ⟨d2, hd2⟩ : ∃ d2, Hid (Go.Dr.stepD m dk x = d2) := ⟨_, rfl⟩
      have hd2l : Hid (d2.length = 32 ∧ ∀ u ∈ d2, u < 256) := by rw [← hd2.out]; exact ⟨Go.Dr.stepD_length _ _ _, Go.Dr.stepD_lt _ _ _⟩
      have hst2 : Hid (Go.Dr.climbD nn d0 (path.take (k + 1)) = d2) := by show _ = _; rw [hst'.out, hd2.out]
      rw [hd2.out] at htk
      obtain ⟨m2, hm2e⟩ : ∃ m2, Hid (m / 2 = m2) := ⟨_, rfl⟩
      rw [hm2e.out] at htk hmd'
      obtain ⟨W2, hPx⟩ := put_row (ty := 23) (Blk.new wr 23 (bv (List.replicate 32 0))) (x := bv x) (by rw [bv_length, bv_length, hxo.1]; rfl) (by rw [bv_length, hxo.1]; exact size35) (bv_one x)
      have hgw : wr.grownBy W2 none := ⟨hPx.grown.os, hPx.grown.tape, hPx.grown.output, Nat.le_trans (by simp) hPx.grown.size, fun q hq _ => (hPx.grown.block q (by simp; omega) (fun e => by cases e; omega)).trans (Below.heap_alloc wr _ q hq)⟩
      have hJ1 := Lib.hid (hJ'.out.none hJs hgw)
      have hk2 := Lib.hid (hkp.out.grown hgw (fun r e => by cases e))
      have hq2 := Lib.hid (hqb.out.grown hgw (by simp))
      have hP' := Lib.hid hPx
      have htk' := Lib.hid htk
      have hxo' := Lib.hid hxo
      have hdk' := Lib.hid (And.intro hdl hdu)
      have hrg := Lib.hid hrg0
      have hdi : Hid ((Tryz.prog.info? 23).map (·.size) = some (bv x).length) := by show _ = _; rw [bv_length, hxo.1]; exact size35
      have hdi2 : Hid ((Tryz.prog.info? 23).map (·.size) = some (bv dk).length) := by show _ = _; rw [bv_length, hdl]; exact size35
      have hqr := Lib.hid hq2.out.range
      have hxr := Lib.hid hPx.blk.range
      have hdv1 : (m : Int) / 2 = (m2 : Int) := by rw [← hm2e.out]; omega
      have hdv2 : Int.tdiv (m : Int) 2 = (m2 : Int) := by rw [Int.tdiv_eq_ediv_of_nonneg (by omega)]; exact hdv1
      have hb0 : (0 : Int) ≤ (m2 : Int) := by omega
      have hb1 : (m2 : Int) < 1024 := by have := hm2e.out; omega
      have k0 : (0 : Int) ≤ (k : Int) := by omega
      have k1 : (k : Int) < (n : Int) := by omega
      have hm2' := Lib.hid hm2
      have hpl' := Lib.hid hpl
      have hand : bits BinOp.and IntKind.i64 (m : Int) 1 = ((m % 2 : Nat) : Int) := and_one ⟨m, hm2⟩
      clear hPx hJs hgw hxo hdl hdu hrg0 htk hst' hqb hkp hbl hkl hm2 hpl h0
      by_cases hpar : m % 2 = 0
      · have hand2 : bits BinOp.and IntKind.i64 (m : Int) 1 = 0 := by rw [hand]; show ((m % 2 : Nat) : Int) = 0; omega
        have hpc := Lib.hid (fun W hT => hpa.out dk x hdk'.out.1 hxo'.out.1 hdk'.out.2 hxo'.out.2 W hT)
        have hpd : Hid (Go.Dr.pairD dk x = d2) := by show _ = _; rw [← hd2.out, Go.Dr.stepD_eq, if_pos hpar]
        rw [hpd.out] at hpc
        clear hand hpar hpa hd2
        gi_wp2_with (first
          | (refine Go.Dj.wpListIn_load_mid (by rfl) 23 (.tmp 14) (by rfl) b (off + k * 32) (by rfl) (bv x) _ hrg.out Tryz.underlying23 (by rfl) hdi.out ?_)
          | (refine Go.Dj.wpListIn_store_mid (by rfl) 23 (.tmp 7) (.tmp 15) (by rfl) wr.heap.size 0 (bv x).toArray (by rfl) (by rfl) hP'.out.there hP'.out.info (by simpa using hP'.out.one) ?_
             generalize hWq : World.setCells _ _ _ _ = Wa
             obtain rfl : W2 = Wa := by rw [← hWq]; exact hP'.out.eq
             clear hWq)
          | (refine Go.Dj.wpListIn_load_mid (by rfl) 23 (.tmp 3) (by rfl) qb 0 (by rfl) (bv dk) _ hqr.out Tryz.underlying23 (by rfl) hdi2.out ?_)
          | (refine Go.Dj.wpListIn_load_mid (by rfl) 23 (.tmp 7) (by rfl) wr.heap.size 0 (by rfl) (bv x) _ hxr.out Tryz.underlying23 (by rfl) hdi.out ?_))
        refine ⟨trivial, (hpc.out _ (HT'.out.kp hk2.out)).mono ?_⟩
        rintro e w3 ⟨rfl, hb3⟩
        have hq3 := hq2.out.below hb3 hq2.out.lt
        obtain ⟨W4, hP4⟩ := put_row (ty := 23) hq3 (x := bv d2) (by rw [bv_length, bv_length, hd2l.out.1, hdk'.out.1]) (by rw [bv_length, hd2l.out.1]; exact size35) (bv_one d2)
        have hJ4 : J ((Go.Dr.climbS nn d0 path).take k) W4 := hJ'.out _ _ _ _ (hJ'.out.none hJ1.out (grown_of_below hb3 none)) hP4.grown (fun r e => by cases e; rfl)
        have hk4 := Lib.hid ((hk2.out.trans (.of hb3)).grown hP4.grown (fun r e => by cases e; exact hq0))
        have hY1 := hY'.out _ (m2, d2) _ hJ4 hpl'.out ⟨by rw [← hm2e.out]; have := hm2'.out; show m / 2 < 1024; omega, hd2l.out⟩
        rw [← htk'.out] at hY1
        have hY1 : YieldAt Fence.wide 4 Tryz.prog l #[.int .i64 (m2 : Int), .agg (bv d2).toArray] W4 _ := hY1
        obtain ⟨fn, tmps, assign, body, hy, hR⟩ := hY1
        have hR' := Lib.hid hR
        have hP4' := Lib.hid hP4
        have hq4 := Lib.hid hP4.blk
        have hqr4 := Lib.hid hP4.blk.range
        have hdi4 : Hid ((Tryz.prog.info? 23).map (·.size) = some (bv d2).length) := by show _ = _; rw [bv_length, hd2l.out.1]; exact size35
        clear hR hP4 hJ4 hq3 hb3 hJ1 hq2 hqr hxr hP' hpc hY' hk2 hrg
        gi_wp2_with (first
          | (refine Go.Dj.wpListIn_store_mid (by rfl) 23 (.tmp 3) (.tmp 21) (by rfl) qb 0 (bv d2).toArray (by rfl) (by rfl) hP4'.out.there hP4'.out.info (by simpa using hP4'.out.one) ?_
             generalize hWq : World.setCells _ _ _ _ = Wa
             obtain rfl : W4 = Wa := by rw [← hWq]; exact hP4'.out.eq
             clear hWq)
          | (refine Go.Dj.wpListIn_load_mid (by rfl) 23 (.tmp 3) (by rfl) qb 0 (by rfl) (bv d2) _ hqr4.out Tryz.underlying23 (by rfl) hdi4.out ?_))
        clear hP4' hqr4 hy
        refine hR'.out.mono ?_
        rintro e2 W5 (⟨rfl, hJ5, hk5⟩ | ⟨rfl, hJx5⟩)
        · have hq5 : Hid (Blk W5 qb 23 (bv d2)) := (hk5.2 qb hqB hqz).trans hq4.out
          have hk6 : Hid (Kp w0 W5) := ⟨Nat.le_trans hk4.out.size hk5.1, fun i hi => (hk5.2 i (by omega) (by omega)).trans (hk4.out.block i hi)⟩
          gi_wp2_with fail
          go_roundw
          case rel => exact ⟨k + 1, by omega, by rw [hmd'.out], by go_num, hJ5, hk6, by rw [hst2.out]; exact hq5⟩
          case measure => simp [intOf]; omega
        · gi_wp2_with fail
          refine bodyPost_ret (results_none rfl _ _ _) rfl ?_
          exact ⟨⟨_, rfl⟩, .inr ⟨_, List.take_prefix _ _, hJx5⟩⟩
      · have hand2 : bits BinOp.and IntKind.i64 (m : Int) 1 = 1 := by rw [hand]; show ((m % 2 : Nat) : Int) = 1; omega
        have hpc := Lib.hid (fun W hT => hpa.out x dk hxo'.out.1 hdk'.out.1 hxo'.out.2 hdk'.out.2 W hT)
        have hpd : Hid (Go.Dr.pairD x dk = d2) := by show _ = _; rw [← hd2.out, Go.Dr.stepD_eq, if_neg hpar]
        rw [hpd.out] at hpc
        clear hand hpar hpa hd2
        gi_wp2_with (first
          | (refine Go.Dj.wpListIn_load_mid (by rfl) 23 (.tmp 14) (by rfl) b (off + k * 32) (by rfl) (bv x) _ hrg.out Tryz.underlying23 (by rfl) hdi.out ?_)
          | (refine Go.Dj.wpListIn_store_mid (by rfl) 23 (.tmp 7) (.tmp 15) (by rfl) wr.heap.size 0 (bv x).toArray (by rfl) (by rfl) hP'.out.there hP'.out.info (by simpa using hP'.out.one) ?_
             generalize hWq : World.setCells _ _ _ _ = Wa
             obtain rfl : W2 = Wa := by rw [← hWq]; exact hP'.out.eq
             clear hWq)
          | (refine Go.Dj.wpListIn_load_mid (by rfl) 23 (.tmp 3) (by rfl) qb 0 (by rfl) (bv dk) _ hqr.out Tryz.underlying23 (by rfl) hdi2.out ?_)
          | (refine Go.Dj.wpListIn_load_mid (by rfl) 23 (.tmp 7) (by rfl) wr.heap.size 0 (by rfl) (bv x) _ hxr.out Tryz.underlying23 (by rfl) hdi.out ?_))
        refine ⟨trivial, (hpc.out _ (HT'.out.kp hk2.out)).mono ?_⟩
        rintro e w3 ⟨rfl, hb3⟩
        have hq3 := hq2.out.below hb3 hq2.out.lt
        obtain ⟨W4, hP4⟩ := put_row (ty := 23) hq3 (x := bv d2) (by rw [bv_length, bv_length, hd2l.out.1, hdk'.out.1]) (by rw [bv_length, hd2l.out.1]; exact size35) (bv_one d2)
        have hJ4 : J ((Go.Dr.climbS nn d0 path).take k) W4 := hJ'.out _ _ _ _ (hJ'.out.none hJ1.out (grown_of_below hb3 none)) hP4.grown (fun r e => by cases e; rfl)
        have hk4 := Lib.hid ((hk2.out.trans (.of hb3)).grown hP4.grown (fun r e => by cases e; exact hq0))
        have hY1 := hY'.out _ (m2, d2) _ hJ4 hpl'.out ⟨by rw [← hm2e.out]; have := hm2'.out; show m / 2 < 1024; omega, hd2l.out⟩
        rw [← htk'.out] at hY1
        have hY1 : YieldAt Fence.wide 4 Tryz.prog l #[.int .i64 (m2 : Int), .agg (bv d2).toArray] W4 _ := hY1
        obtain ⟨fn, tmps, assign, body, hy, hR⟩ := hY1
        have hR' := Lib.hid hR
        have hP4' := Lib.hid hP4
        have hq4 := Lib.hid hP4.blk
        have hqr4 := Lib.hid hP4.blk.range
        have hdi4 : Hid ((Tryz.prog.info? 23).map (·.size) = some (bv d2).length) := by show _ = _; rw [bv_length, hd2l.out.1]; exact size35
        clear hR hP4 hJ4 hq3 hb3 hJ1 hq2 hqr hxr hP' hpc hY' hk2 hrg
        gi_wp2_with (first
          | (refine Go.Dj.wpListIn_store_mid (by rfl) 23 (.tmp 3) (.tmp 24) (by rfl) qb 0 (bv d2).toArray (by rfl) (by rfl) hP4'.out.there hP4'.out.info (by simpa using hP4'.out.one) ?_
             generalize hWq : World.setCells _ _ _ _ = Wa
             obtain rfl : W4 = Wa := by rw [← hWq]; exact hP4'.out.eq
             clear hWq)
          | (refine Go.Dj.wpListIn_load_mid (by rfl) 23 (.tmp 3) (by rfl) qb 0 (by rfl) (bv d2) _ hqr4.out Tryz.underlying23 (by rfl) hdi4.out ?_))
        clear hP4' hqr4 hy
        refine hR'.out.mono ?_
        rintro e2 W5 (⟨rfl, hJ5, hk5⟩ | ⟨rfl, hJx5⟩)
        · have hq5 : Hid (Blk W5 qb 23 (bv d2)) := (hk5.2 qb hqB hqz).trans hq4.out
          have hk6 : Hid (Kp w0 W5) := ⟨Nat.le_trans hk4.out.size hk5.1, fun i hi => (hk5.2 i (by omega) (by omega)).trans (hk4.out.block i hi)⟩
          gi_wp2_with fail
          go_roundw
          case rel => exact ⟨k + 1, by omega, by rw [hmd'.out], by go_num, hJ5, hk6, by rw [hst2.out]; exact hq5⟩
          case measure => simp [intOf]; omega
        · gi_wp2_with fail
          refine bodyPost_ret (results_none rfl _ _ _) rfl ?_
          exact ⟨⟨_, rfl⟩, .inr ⟨_, List.take_prefix _ _, hJx5⟩⟩
    · obtain rfl : k = n := by omega
      rw [List.take_of_length_le (by rw [Go.Dr.climbS_length]; omega)] at hJs
      gi_wp2_with fail
      refine bodyPost_end (results_none rfl _ _ _) rfl ?_
      exact ⟨⟨_, rfl⟩, .inl ⟨_, rfl, hJs⟩⟩

/-- climb makes three boxes and an iterator. -/
theorem climb_any (dev : Int) (d : List Nat) (_hd : d.length = 32) (a : Option Addr) (n c : Nat) (w : World) :
    Calls Tryz.prog 83 #[.int .i64 dev, .agg (bv d).toArray, .slice a n c] w (fun e w' => e = .returned (.func (.func 123) #[] #[.pointer (some ⟨w.heap.size, 0, none⟩), .pointer (some ⟨w.heap.size + 2, 0, none⟩), .pointer (some ⟨w.heap.size + 1, 0, none⟩)]) ∧
      w' = ((w.alloc (.cells #[.int .i64 dev] 3)).alloc (.cells (bv d).toArray 23)).alloc (.cells #[.slice a n c] 66)) := by
  go_enter Tryz.func83, Tryz.ntmps83
  go_wp2_with fail
  go_returns
  exact ⟨rfl, rfl⟩
end Go.Proofs.YthhblcbnnmoojaaGreatDoor
namespace Go.Proofs.YthhblcbnnmoojaaGreatDoor
open Go.RowKit Go.Mem
open Go.Dr (Lst Rt Dir)

def dirC (p : Int) (la : Option Addr) (ln lc : Nat) (ra : Option Addr) (rn rc : Nat) : List Value := [.int .i64 p, .slice la ln lc, .slice ra rn rc]
theorem sizeDr : (Tryz.prog.info? 34).map (·.size) = some 3 := by kernel_rfl
/-- what New hands back. -/
def NewPost (k : Int) (w : World) (e : Ending) (w' : World) : Prop := e = .returned (.tuple #[.agg (dirC (Go.Dr.newD k).1.priv none 0 0 none 0 0).toArray, .int .i64 (Go.Dr.newD k).2]) ∧ Below w.heap.size w w'
set_option maxHeartbeats 1000000 in
theorem dnew_any (k : Int) (w : World) : Calls Tryz.prog 15 #[.int .i64 k] w (NewPost k w) := by
  have hp := Lib.hid (private_any k)
  have hf : Hid (∀ W, Below w.heap.size w W → keyOk k = true → NewPost k w (.returned (.tuple #[.agg #[.int .i64 k, .slice none 0 0, .slice none 0 0], .int .i64 0])) W) := fun W h1 h2 => by
    refine ⟨?_, h1⟩; unfold Go.Dr.newD; rw [if_pos h2]; rfl
  have hf2 : Hid (∀ W, Below w.heap.size w W → keyOk k = false → NewPost k w (.returned (.tuple #[.agg #[.int .i64 0, .slice none 0 0, .slice none 0 0], .int .i64 50])) W) := fun W h1 h2 => by
    refine ⟨?_, h1⟩; unfold Go.Dr.newD; rw [if_neg (by rw [h2]; simp)]; rfl
  obtain ⟨X, hX⟩ : ∃ X, X = NewPost k w := ⟨_, rfl⟩
  rw [← hX] at hf hf2 ⊢
  clear hX
  cases hk : keyOk k with
  | true =>
    have hf3 := Lib.hid (fun W h => hf.out W h hk)
    rw [hk] at hp
    clear hf hf2
    go_enter Tryz.func15, Tryz.ntmps15
    go_wp2_with fail
    refine (hp.out _).mono ?_
    rintro e w1 ⟨rfl, rfl⟩
    go_wp2_with fail
    exact ret_cell_tmp (p := 2) (u := 3) rfl (Blk.new w 34 (dirC k none 0 0 none 0 0)) Tryz.underlying34 rfl sizeDr rfl rfl rfl (hf3.out _ ((Below.refl _ w).alloc (Nat.le_refl _) _))
  | false =>
    have hf3 := Lib.hid (fun W h => hf2.out W h hk)
    rw [hk] at hp
    clear hf hf2
    go_enter Tryz.func15, Tryz.ntmps15
    go_wp2_with fail
    refine (hp.out _).mono ?_
    rintro e w1 ⟨rfl, rfl⟩
    go_wp2_with fail
    exact ret_cell_tmp (p := 2) (u := 3) rfl (Blk.new w 34 (dirC 0 none 0 0 none 0 0)) Tryz.underlying34 rfl sizeDr rfl rfl rfl (hf3.out _ ((Below.refl _ w).alloc (Nat.le_refl _) _))

/-- what the walk of Signed keeps. -/
def SdW (w : World) (tb : Nat) (x : Rt) (wz : World) : Prop := Blk wz tb 27 (rC x) ∧ tb < wz.heap.size ∧ Below w.heap.size w wz
section
variable {w wz wq : World} {tb : Nat} {x : Rt}
theorem SdW.drew (h : SdW w tb x wz) : SdW w tb x wz.drew := ⟨h.1, h.2.1, h.2.2.drew⟩
theorem SdW.drewN (h : SdW w tb x wz) (m : Nat) : SdW w tb x (wz.drewN m) := ⟨h.1.drewN m, h.2.1, h.2.2.trans (below_drewN _ _ _)⟩
theorem SdW.next (hb : Below wz.heap.size wz wq) (h : SdW w tb x wz) : SdW w tb x wq := ⟨h.1.below hb h.2.1, Nat.lt_of_lt_of_le h.2.1 hb.size, h.2.2.trans (hb.mono h.2.2.size)⟩
end

set_option maxRecDepth 20000 in
set_option maxHeartbeats 8000000 in
theorem signed_any (pub : Int) (hp : I64 pub) (x : Rt) (hx : OkQ x) (w : World) (HT : Tabs w) :
    Calls Tryz.prog 12 #[.int .i64 pub, .agg (rC x).toArray] w (RetBo (Go.Dr.signedB 4 pub x) w) := by
  have HT' := Lib.hid HT; have hx' := Lib.hid hx; have hp' := Lib.hid hp
  clear HT
  obtain ⟨tb, htb⟩ : ∃ tb, Hid (w.heap.size = tb) := ⟨_, rfl⟩
  have z0 : (Tryz.prog.info? 27).map (·.size) = some (rC x).length := by rw [rC_length hx]; exact sizeR
  have hml : Hid ((Go.Dr.msgR x).length = 72) := by show _ = _; unfold Go.Dr.msgR Go.Dr.num8; simp [hx.dig, hx.prev, Sha.be_length]
  go_enter Tryz.func12, Tryz.ntmps12
  go_upto_region 1 with fail
  rw [htb.out]
  generalize hW : World.alloc _ _ = W
  have hM : SdW w tb x W := by
    rw [← hW, ← htb.out]
    exact ⟨Blk.new w _ (rC x), by simp, (Below.refl _ w).alloc (Nat.le_refl _) _⟩
  clear hW hx hp
  obtain ⟨V, hV⟩ : ∃ V, Hid (verB 4 pub (Go.Dr.msgR x) x.r x.s = V) := ⟨_, rfl⟩
  have hms := Lib.hid (fun W => message_any x hx'.out W)
  have c0q : Hid (∀ wz, SdW w tb x wz → wz.cell? ⟨tb, 0, none⟩ = some (.int .i64 x.no)) := fun wz h => h.1.at_ (i := 0) rfl
  by_cases h1 : 1 ≤ x.no
  · have h1' : decide (1 ≤ x.no) = true := by simpa using h1
    by_cases h2 : x.no ≤ 65536
    · have h2' : decide (x.no ≤ 65536) = true := by simpa using h2
      have hv : Hid (Go.Dr.signedB 4 pub x = V) := by show _ = _; unfold Go.Dr.signedB; rw [decide_eq_true ⟨h1, h2⟩, hV.out]; rfl
      refine wp_region_held_drew (S := fun wz => SdW w tb x wz) (by kernel_rfl) (hM.drew) (fun hHeld => ?_)
      generalize W.drew = W0 at *
      refine wpAnyH_take (i := 0) (oi := { dst := some 5, op := Op.fieldAddr 27 (Operand.tmp 3) 0, type := 0, pos := "directory.go:209", after := #[], guard := none }) (v := ?_) rfl (by kernel_rfl) (by kernel_rfl) (by kernel_rfl) (fun _ _ _ h => h) (Or.inl ⟨by rfl, ?_⟩) hHeld ?_
      rotate_left
      · intro wz hSw
        go_simp
        all_goals (with_reducible rfl)
      try simp only [Act.put, List.setIfInBounds_toArray, List.set_cons_zero, List.set_cons_succ]
      refine wpAnyH_take (i := 1) (oi := { dst := some 6, op := Op.load 3 (Operand.tmp 5), type := 3, pos := "directory.go:209", after := #[{ on := 0, ground := Ground.data }], guard := none }) (v := ?_) rfl (by kernel_rfl) (by kernel_rfl) (by kernel_rfl) (fun _ _ _ h => h) (Or.inl ⟨by rfl, ?_⟩) hHeld ?_
      rotate_left
      · intro wz hSw
        have q0 := c0q.out wz hSw
        go_simp
        all_goals (with_reducible rfl)
      try simp only [Act.put, List.setIfInBounds_toArray, List.set_cons_zero, List.set_cons_succ]
      refine wpAnyH_take (i := 2) (oi := { dst := some 7, op := Op.binOp BinOp.geq 3 (Operand.tmp 6) (Operand.const (Value.int IntKind.i64 1)) 3, type := 4, pos := "directory.go:209", after := #[{ on := 1, ground := Ground.data }], guard := none }) (v := ?_) rfl (by kernel_rfl) (by kernel_rfl) (by kernel_rfl) (fun _ _ _ h => h) (Or.inl ⟨by rfl, ?_⟩) hHeld ?_
      rotate_left
      · intro wz hSw
        go_simp
        all_goals (with_reducible rfl)
      try simp only [Act.put, List.setIfInBounds_toArray, List.set_cons_zero, List.set_cons_succ]
      refine wpAnyH_take (i := 3) (oi := { dst := some 8, op := Op.move (Operand.tmp 7), type := 4, pos := "directory.go:209", after := #[{ on := 2, ground := Ground.data }], guard := none }) (v := ?_) rfl (by kernel_rfl) (by kernel_rfl) (by kernel_rfl) (fun _ _ _ h => h) (Or.inl ⟨by rfl, ?_⟩) hHeld ?_
      rotate_left
      · intro wz hSw
        go_simp
        all_goals (with_reducible rfl)
      try simp only [Act.put, List.setIfInBounds_toArray, List.set_cons_zero, List.set_cons_succ]
      refine wpAnyH_take (i := 4) (oi := { dst := some 9, op := Op.fieldAddr 27 (Operand.tmp 3) 0, type := 0, pos := "directory.go:209", after := #[{ on := 3, ground := Ground.guard }], guard := some (3, true) }) (v := ?_) rfl (by kernel_rfl) (by kernel_rfl) (by kernel_rfl) (fun _ _ _ h => h) (Or.inl ⟨by rfl, ?_⟩) hHeld ?_
      rotate_left
      · intro wz hSw
        go_simp
        all_goals (with_reducible rfl)
      try simp only [Act.put, List.setIfInBounds_toArray, List.set_cons_zero, List.set_cons_succ]
      refine wpAnyH_take (i := 5) (oi := { dst := some 10, op := Op.load 3 (Operand.tmp 9), type := 3, pos := "directory.go:209", after := #[{ on := 4, ground := Ground.data }, { on := 3, ground := Ground.guard }], guard := some (3, true) }) (v := ?_) rfl (by kernel_rfl) (by kernel_rfl) (by kernel_rfl) (fun _ _ _ h => h) (Or.inl ⟨by rfl, ?_⟩) hHeld ?_
      rotate_left
      · intro wz hSw
        have q0 := c0q.out wz hSw
        go_simp
        all_goals (with_reducible rfl)
      try simp only [Act.put, List.setIfInBounds_toArray, List.set_cons_zero, List.set_cons_succ]
      refine wpAnyH_take (i := 6) (oi := { dst := some 11, op := Op.binOp BinOp.leq 3 (Operand.tmp 10) (Operand.const (Value.int IntKind.i64 65536)) 3, type := 4, pos := "directory.go:209", after := #[{ on := 5, ground := Ground.data }, { on := 3, ground := Ground.guard }], guard := some (3, true) }) (v := ?_) rfl (by kernel_rfl) (by kernel_rfl) (by kernel_rfl) (fun _ _ _ h => h) (Or.inl ⟨by rfl, ?_⟩) hHeld ?_
      rotate_left
      · intro wz hSw
        go_simp
        all_goals (with_reducible rfl)
      try simp only [Act.put, List.setIfInBounds_toArray, List.set_cons_zero, List.set_cons_succ]
      refine wpAnyH_take (i := 7) (oi := { dst := some 12, op := Op.pick (Operand.tmp 8) (Operand.tmp 11) (Operand.const (Value.bool false)), type := 4, pos := "directory.go:209", after := #[{ on := 3, ground := Ground.data }, { on := 6, ground := Ground.data }], guard := none }) (v := ?_) rfl (by kernel_rfl) (by kernel_rfl) (by kernel_rfl) (fun _ _ _ h => h) (Or.inl ⟨by rfl, ?_⟩) hHeld ?_
      rotate_left
      · intro wz hSw
        go_simp
        all_goals (with_reducible rfl)
      try simp only [Act.put, List.setIfInBounds_toArray, List.set_cons_zero, List.set_cons_succ]
      refine wpAnyH_take (i := 8) (oi := { dst := some 13, op := Op.move (Operand.tmp 12), type := 4, pos := "directory.go:209", after := #[{ on := 7, ground := Ground.data }, { on := 3, ground := Ground.chain }], guard := none }) (v := ?_) rfl (by kernel_rfl) (by kernel_rfl) (by kernel_rfl) (fun _ _ _ h => h) (Or.inl ⟨by rfl, ?_⟩) hHeld ?_
      rotate_left
      · intro wz hSw
        go_simp
        all_goals (with_reducible rfl)
      try simp only [Act.put, List.setIfInBounds_toArray, List.set_cons_zero, List.set_cons_succ]
      refine wpAnyH_take (i := 9) (oi := { dst := some 14, op := Op.move (Operand.tmp 0), type := 3, pos := "directory.go:209", after := #[{ on := 8, ground := Ground.guard }], guard := some (8, true) }) (v := ?_) rfl (by kernel_rfl) (by kernel_rfl) (by kernel_rfl) (fun _ _ _ h => h) (Or.inl ⟨by rfl, ?_⟩) hHeld ?_
      rotate_left
      · intro wz hSw
        go_simp
        all_goals (with_reducible rfl)
      try simp only [Act.put, List.setIfInBounds_toArray, List.set_cons_zero, List.set_cons_succ]
      refine wpAnyH_take (i := 10) (oi := { dst := some 15, op := Op.load 27 (Operand.tmp 3), type := 27, pos := "directory.go:209", after := #[{ on := 8, ground := Ground.guard }], guard := some (8, true) }) rfl (by kernel_rfl) (by kernel_rfl) (by kernel_rfl) (fun _ _ _ h => h) (yieldsIf_load_mid (by rfl) _ _ rfl tb 0 rfl (rC x) _ (fun wz h => h.1.range) Tryz.underlying27 rfl (z0)) hHeld ?_
      try simp only [Act.put, List.setIfInBounds_toArray, List.set_cons_zero, List.set_cons_succ]
      refine wpAnyH_take (i := 15) (oi := { dst := some 20, op := Op.fieldAddr 27 (Operand.tmp 3) 3, type := 0, pos := "directory.go:209", after := #[{ on := 8, ground := Ground.guard }], guard := some (8, true) }) (v := ?_) rfl (by kernel_rfl) (by kernel_rfl) (by kernel_rfl) (fun _ _ _ h => h) (Or.inl ⟨by rfl, ?_⟩) hHeld ?_
      rotate_left
      · intro wz hSw
        go_simp
        all_goals (with_reducible rfl)
      try simp only [Act.put, List.setIfInBounds_toArray, List.set_cons_zero, List.set_cons_succ]
      refine wpAnyH_take (i := 16) (oi := { dst := some 21, op := Op.load 25 (Operand.tmp 20), type := 25, pos := "directory.go:209", after := #[{ on := 15, ground := Ground.data }, { on := 8, ground := Ground.guard }], guard := some (8, true) }) (v := ?_) rfl (by kernel_rfl) (by kernel_rfl) (by kernel_rfl) (fun _ _ _ h => h) (Or.inl ⟨by rfl, ?_⟩) hHeld ?_
      rotate_left
      · intro wz hSw
        have q0 := hSw.1.at_ (rC_r hx'.out)
        have q1 := hSw.1.at_ (rC_s hx'.out)
        go_simp
        all_goals (with_reducible rfl)
      try simp only [Act.put, List.setIfInBounds_toArray, List.set_cons_zero, List.set_cons_succ]
      refine wpAnyH_ready (rs := [11]) (by kernel_rfl) (by simp) ?_
      refine AllReadyH.cons (o := { dst := some 16, op := Op.call { callee := Callee.value (Operand.func 42), args := #[Operand.tmp 15], argTypes := #[27] }, type := 70, pos := "directory.go:209", after := #[{ on := 10, ground := Ground.data }, { on := 8, ground := Ground.chain }, { on := 8, ground := Ground.guard }], guard := some (8, true) }) rfl (fun K hK => ?_) AllReadyH.nil
      rw [if_pos (by rfl)]
      show Oper.wp _ _ _ _ K _
      go_simp
      go_at_call 42
      refine (hms.out W0).mono ?_
      rintro e W1 ⟨b, rfl, hbW, I1, hst⟩
      refine hK.out _ _ (hHeld.next hst) (fun hHeld2 => ?_)
      clear hHeld
      have hHeld := hHeld2
      clear hHeld2
      clear hK K
      try simp only [Act.put, List.setIfInBounds_toArray, List.set_cons_zero, List.set_cons_succ]
      refine wpAnyH_take (i := 12) (oi := { dst := some 17, op := Op.nilCheck (Operand.tmp 16), type := 0, pos := "directory.go:209", after := #[{ on := 11, ground := Ground.data }, { on := 8, ground := Ground.guard }], guard := some (8, true) }) (v := ?_) rfl (by kernel_rfl) (by kernel_rfl) (by kernel_rfl) (fun _ _ _ h => h) (Or.inl ⟨by rfl, ?_⟩) hHeld ?_
      rotate_left
      · intro wz hSw
        go_simp
        all_goals (with_reducible rfl)
      try simp only [Act.put, List.setIfInBounds_toArray, List.set_cons_zero, List.set_cons_succ]
      refine wpAnyH_take (i := 13) (oi := { dst := some 18, op := Op.fieldAddr 85 (Operand.tmp 17) 0, type := 0, pos := "directory.go:209", after := #[{ on := 12, ground := Ground.data }, { on := 8, ground := Ground.guard }], guard := some (8, true) }) (v := ?_) rfl (by kernel_rfl) (by kernel_rfl) (by kernel_rfl) (fun _ _ _ h => h) (Or.inl ⟨by rfl, ?_⟩) hHeld ?_
      rotate_left
      · intro wz hSw
        go_simp
        all_goals (with_reducible rfl)
      try simp only [Act.put, List.setIfInBounds_toArray, List.set_cons_zero, List.set_cons_succ]
      refine wpAnyH_ready (rs := [14]) (by kernel_rfl) (by simp) ?_
      refine AllReadyH.cons (o := { dst := some 19, op := Op.call { callee := Callee.value (Operand.func 49), args := #[Operand.tmp 18], argTypes := #[83] }, type := 74, pos := "directory.go:209", after := #[{ on := 13, ground := Ground.data }, { on := 11, ground := Ground.chain }, { on := 8, ground := Ground.guard }], guard := some (8, true) }) rfl (fun K hK => ?_) AllReadyH.nil
      rw [if_pos (by rfl)]
      show Oper.wp _ _ _ _ K _
      go_simp
      go_at_call 49
      refine (bytesOf_any _ b _ W1 I1).mono ?_
      rintro e W2 ⟨a2, c2, rfl, hS2, m, rfl⟩
      have hS3 := Lib.hid hS2
      refine hK.out _ _ (hHeld.drewN m) (fun hHeld2 => ?_)
      clear hHeld hS2
      have hHeld := hHeld2
      clear hHeld2
      generalize W1.drewN m = W3 at *
      rw [hml.out]
      clear hK K
      try simp only [Act.put, List.setIfInBounds_toArray, List.set_cons_zero, List.set_cons_succ]
      refine wpAnyH_ready (rs := [17]) (by kernel_rfl) (by simp) ?_
      refine AllReadyH.cons (o := { dst := some 22, op := Op.call { callee := Callee.value (Operand.func 48), args := #[Operand.tmp 14, Operand.tmp 19, Operand.tmp 21], argTypes := #[3, 74, 25] }, type := 4, pos := "directory.go:209", after := #[{ on := 9, ground := Ground.data }, { on := 14, ground := Ground.data }, { on := 16, ground := Ground.data }, { on := 14, ground := Ground.chain }, { on := 8, ground := Ground.guard }], guard := some (8, true) }) rfl (fun K hK => ?_) AllReadyH.nil
      rw [if_pos (by rfl)]
      show Oper.wp _ _ _ _ K _
      go_simp
      go_at_call 48
      refine (Verify_any pub x.r x.s hp'.out hx'.out.r a2 72 c2 (Go.Dr.msgR x) W3 (HT'.out.below hHeld.2.2) (by have := hS3.out; rwa [hml.out] at this) (by omega)).mono ?_
      rintro e W4 ⟨rfl, hst2⟩
      refine hK.out _ _ (hHeld.next hst2) (fun hHeld2 => ?_)
      clear hHeld
      have hHeld := hHeld2
      clear hHeld2
      rw [hV.out]
      clear hK K
      try simp only [Act.put, List.setIfInBounds_toArray, List.set_cons_zero, List.set_cons_succ]
      refine wpAnyH_take (i := 18) (oi := { dst := some 23, op := Op.pick (Operand.tmp 13) (Operand.tmp 22) (Operand.const (Value.bool false)), type := 4, pos := "directory.go:209", after := #[{ on := 8, ground := Ground.data }, { on := 17, ground := Ground.data }], guard := none }) (v := ?_) rfl (by kernel_rfl) (by kernel_rfl) (by kernel_rfl) (fun _ _ _ h => h) (Or.inl ⟨by rfl, ?_⟩) hHeld ?_
      rotate_left
      · intro wz hSw
        go_simp
        all_goals (with_reducible rfl)
      try simp only [Act.put, List.setIfInBounds_toArray, List.set_cons_zero, List.set_cons_succ]
      refine wpAnyH_take (i := 19) (oi := { dst := some 4, op := Op.assign (Operand.tmp 23), type := 4, pos := "directory.go:209", after := #[{ on := 18, ground := Ground.data }, { on := 17, ground := Ground.chain }, { on := 0, ground := Ground.phase }, { on := 1, ground := Ground.phase }, { on := 2, ground := Ground.phase }, { on := 3, ground := Ground.phase }, { on := 4, ground := Ground.phase }, { on := 5, ground := Ground.phase }, { on := 6, ground := Ground.phase }, { on := 7, ground := Ground.phase }, { on := 8, ground := Ground.phase }, { on := 9, ground := Ground.phase }, { on := 10, ground := Ground.phase }, { on := 11, ground := Ground.phase }, { on := 12, ground := Ground.phase }, { on := 13, ground := Ground.phase }, { on := 14, ground := Ground.phase }, { on := 15, ground := Ground.phase }, { on := 16, ground := Ground.phase }, { on := 17, ground := Ground.phase }, { on := 18, ground := Ground.phase }], guard := none }) (v := ?_) rfl (by kernel_rfl) (by kernel_rfl) (by kernel_rfl) (fun _ _ _ h => h) (Or.inl ⟨by rfl, ?_⟩) hHeld ?_
      rotate_left
      · intro wz hSw
        go_simp
        all_goals (with_reducible rfl)
      try simp only [Act.put, List.setIfInBounds_toArray, List.set_cons_zero, List.set_cons_succ]
      refine wpAnyH_done (by kernel_rfl) ?_ _
      go_wp2_with fail
      go_ret
      exact ⟨by rw [hv.out]; rfl, hHeld.2.2⟩
    · have h2' : decide (x.no ≤ 65536) = false := by simpa using h2
      have hv : Hid (Go.Dr.signedB 4 pub x = false) := by show _ = _; unfold Go.Dr.signedB; rw [decide_eq_false (fun h => h2 h.2)]; rfl
      refine wp_region_held_drew (S := fun wz => SdW w tb x wz) (by kernel_rfl) (hM.drew) (fun hHeld => ?_)
      generalize W.drew = W0 at *
      refine wpAnyH_take (i := 0) (oi := { dst := some 5, op := Op.fieldAddr 27 (Operand.tmp 3) 0, type := 0, pos := "directory.go:209", after := #[], guard := none }) (v := ?_) rfl (by kernel_rfl) (by kernel_rfl) (by kernel_rfl) (fun _ _ _ h => h) (Or.inl ⟨by rfl, ?_⟩) hHeld ?_
      rotate_left
      · intro wz hSw
        go_simp
        all_goals (with_reducible rfl)
      try simp only [Act.put, List.setIfInBounds_toArray, List.set_cons_zero, List.set_cons_succ]
      refine wpAnyH_take (i := 1) (oi := { dst := some 6, op := Op.load 3 (Operand.tmp 5), type := 3, pos := "directory.go:209", after := #[{ on := 0, ground := Ground.data }], guard := none }) (v := ?_) rfl (by kernel_rfl) (by kernel_rfl) (by kernel_rfl) (fun _ _ _ h => h) (Or.inl ⟨by rfl, ?_⟩) hHeld ?_
      rotate_left
      · intro wz hSw
        have q0 := c0q.out wz hSw
        go_simp
        all_goals (with_reducible rfl)
      try simp only [Act.put, List.setIfInBounds_toArray, List.set_cons_zero, List.set_cons_succ]
      refine wpAnyH_take (i := 2) (oi := { dst := some 7, op := Op.binOp BinOp.geq 3 (Operand.tmp 6) (Operand.const (Value.int IntKind.i64 1)) 3, type := 4, pos := "directory.go:209", after := #[{ on := 1, ground := Ground.data }], guard := none }) (v := ?_) rfl (by kernel_rfl) (by kernel_rfl) (by kernel_rfl) (fun _ _ _ h => h) (Or.inl ⟨by rfl, ?_⟩) hHeld ?_
      rotate_left
      · intro wz hSw
        go_simp
        all_goals (with_reducible rfl)
      try simp only [Act.put, List.setIfInBounds_toArray, List.set_cons_zero, List.set_cons_succ]
      refine wpAnyH_take (i := 3) (oi := { dst := some 8, op := Op.move (Operand.tmp 7), type := 4, pos := "directory.go:209", after := #[{ on := 2, ground := Ground.data }], guard := none }) (v := ?_) rfl (by kernel_rfl) (by kernel_rfl) (by kernel_rfl) (fun _ _ _ h => h) (Or.inl ⟨by rfl, ?_⟩) hHeld ?_
      rotate_left
      · intro wz hSw
        go_simp
        all_goals (with_reducible rfl)
      try simp only [Act.put, List.setIfInBounds_toArray, List.set_cons_zero, List.set_cons_succ]
      refine wpAnyH_take (i := 4) (oi := { dst := some 9, op := Op.fieldAddr 27 (Operand.tmp 3) 0, type := 0, pos := "directory.go:209", after := #[{ on := 3, ground := Ground.guard }], guard := some (3, true) }) (v := ?_) rfl (by kernel_rfl) (by kernel_rfl) (by kernel_rfl) (fun _ _ _ h => h) (Or.inl ⟨by rfl, ?_⟩) hHeld ?_
      rotate_left
      · intro wz hSw
        go_simp
        all_goals (with_reducible rfl)
      try simp only [Act.put, List.setIfInBounds_toArray, List.set_cons_zero, List.set_cons_succ]
      refine wpAnyH_take (i := 5) (oi := { dst := some 10, op := Op.load 3 (Operand.tmp 9), type := 3, pos := "directory.go:209", after := #[{ on := 4, ground := Ground.data }, { on := 3, ground := Ground.guard }], guard := some (3, true) }) (v := ?_) rfl (by kernel_rfl) (by kernel_rfl) (by kernel_rfl) (fun _ _ _ h => h) (Or.inl ⟨by rfl, ?_⟩) hHeld ?_
      rotate_left
      · intro wz hSw
        have q0 := c0q.out wz hSw
        go_simp
        all_goals (with_reducible rfl)
      try simp only [Act.put, List.setIfInBounds_toArray, List.set_cons_zero, List.set_cons_succ]
      refine wpAnyH_take (i := 6) (oi := { dst := some 11, op := Op.binOp BinOp.leq 3 (Operand.tmp 10) (Operand.const (Value.int IntKind.i64 65536)) 3, type := 4, pos := "directory.go:209", after := #[{ on := 5, ground := Ground.data }, { on := 3, ground := Ground.guard }], guard := some (3, true) }) (v := ?_) rfl (by kernel_rfl) (by kernel_rfl) (by kernel_rfl) (fun _ _ _ h => h) (Or.inl ⟨by rfl, ?_⟩) hHeld ?_
      rotate_left
      · intro wz hSw
        go_simp
        all_goals (with_reducible rfl)
      try simp only [Act.put, List.setIfInBounds_toArray, List.set_cons_zero, List.set_cons_succ]
      refine wpAnyH_take (i := 7) (oi := { dst := some 12, op := Op.pick (Operand.tmp 8) (Operand.tmp 11) (Operand.const (Value.bool false)), type := 4, pos := "directory.go:209", after := #[{ on := 3, ground := Ground.data }, { on := 6, ground := Ground.data }], guard := none }) (v := ?_) rfl (by kernel_rfl) (by kernel_rfl) (by kernel_rfl) (fun _ _ _ h => h) (Or.inl ⟨by rfl, ?_⟩) hHeld ?_
      rotate_left
      · intro wz hSw
        go_simp
        all_goals (with_reducible rfl)
      try simp only [Act.put, List.setIfInBounds_toArray, List.set_cons_zero, List.set_cons_succ]
      refine wpAnyH_take (i := 8) (oi := { dst := some 13, op := Op.move (Operand.tmp 12), type := 4, pos := "directory.go:209", after := #[{ on := 7, ground := Ground.data }, { on := 3, ground := Ground.chain }], guard := none }) (v := ?_) rfl (by kernel_rfl) (by kernel_rfl) (by kernel_rfl) (fun _ _ _ h => h) (Or.inl ⟨by rfl, ?_⟩) hHeld ?_
      rotate_left
      · intro wz hSw
        go_simp
        all_goals (with_reducible rfl)
      try simp only [Act.put, List.setIfInBounds_toArray, List.set_cons_zero, List.set_cons_succ]
      refine wpAnyH_take (i := 9) (oi := { dst := some 14, op := Op.move (Operand.tmp 0), type := 3, pos := "directory.go:209", after := #[{ on := 8, ground := Ground.guard }], guard := some (8, true) }) (v := undef) rfl (by kernel_rfl) (by kernel_rfl) (by kernel_rfl) (fun _ _ _ h => h) (Or.inr ⟨by rfl, rfl⟩) hHeld ?_
      try simp only [Act.put, List.setIfInBounds_toArray, List.set_cons_zero, List.set_cons_succ]
      refine wpAnyH_take (i := 10) (oi := { dst := some 15, op := Op.load 27 (Operand.tmp 3), type := 27, pos := "directory.go:209", after := #[{ on := 8, ground := Ground.guard }], guard := some (8, true) }) (v := undef) rfl (by kernel_rfl) (by kernel_rfl) (by kernel_rfl) (fun _ _ _ h => h) (Or.inr ⟨by rfl, rfl⟩) hHeld ?_
      try simp only [Act.put, List.setIfInBounds_toArray, List.set_cons_zero, List.set_cons_succ]
      refine wpAnyH_take (i := 15) (oi := { dst := some 20, op := Op.fieldAddr 27 (Operand.tmp 3) 3, type := 0, pos := "directory.go:209", after := #[{ on := 8, ground := Ground.guard }], guard := some (8, true) }) (v := undef) rfl (by kernel_rfl) (by kernel_rfl) (by kernel_rfl) (fun _ _ _ h => h) (Or.inr ⟨by rfl, rfl⟩) hHeld ?_
      try simp only [Act.put, List.setIfInBounds_toArray, List.set_cons_zero, List.set_cons_succ]
      refine wpAnyH_take (i := 16) (oi := { dst := some 21, op := Op.load 25 (Operand.tmp 20), type := 25, pos := "directory.go:209", after := #[{ on := 15, ground := Ground.data }, { on := 8, ground := Ground.guard }], guard := some (8, true) }) (v := undef) rfl (by kernel_rfl) (by kernel_rfl) (by kernel_rfl) (fun _ _ _ h => h) (Or.inr ⟨by rfl, rfl⟩) hHeld ?_
      try simp only [Act.put, List.setIfInBounds_toArray, List.set_cons_zero, List.set_cons_succ]
      refine wpAnyH_ready (rs := [11]) (by kernel_rfl) (by simp) ?_
      refine AllReadyH.cons (o := { dst := some 16, op := Op.call { callee := Callee.value (Operand.func 42), args := #[Operand.tmp 15], argTypes := #[27] }, type := 70, pos := "directory.go:209", after := #[{ on := 10, ground := Ground.data }, { on := 8, ground := Ground.chain }, { on := 8, ground := Ground.guard }], guard := some (8, true) }) rfl (fun K hK => ?_) AllReadyH.nil
      rw [if_neg (Bool.eq_false_iff.1 (by rfl))]
      refine hK.out _ _ hHeld (fun hHeld => ?_)
      clear hK K
      try simp only [Act.put, List.setIfInBounds_toArray, List.set_cons_zero, List.set_cons_succ]
      refine wpAnyH_take (i := 12) (oi := { dst := some 17, op := Op.nilCheck (Operand.tmp 16), type := 0, pos := "directory.go:209", after := #[{ on := 11, ground := Ground.data }, { on := 8, ground := Ground.guard }], guard := some (8, true) }) (v := undef) rfl (by kernel_rfl) (by kernel_rfl) (by kernel_rfl) (fun _ _ _ h => h) (Or.inr ⟨by rfl, rfl⟩) hHeld ?_
      try simp only [Act.put, List.setIfInBounds_toArray, List.set_cons_zero, List.set_cons_succ]
      refine wpAnyH_take (i := 13) (oi := { dst := some 18, op := Op.fieldAddr 85 (Operand.tmp 17) 0, type := 0, pos := "directory.go:209", after := #[{ on := 12, ground := Ground.data }, { on := 8, ground := Ground.guard }], guard := some (8, true) }) (v := undef) rfl (by kernel_rfl) (by kernel_rfl) (by kernel_rfl) (fun _ _ _ h => h) (Or.inr ⟨by rfl, rfl⟩) hHeld ?_
      try simp only [Act.put, List.setIfInBounds_toArray, List.set_cons_zero, List.set_cons_succ]
      refine wpAnyH_ready (rs := [14]) (by kernel_rfl) (by simp) ?_
      refine AllReadyH.cons (o := { dst := some 19, op := Op.call { callee := Callee.value (Operand.func 49), args := #[Operand.tmp 18], argTypes := #[83] }, type := 74, pos := "directory.go:209", after := #[{ on := 13, ground := Ground.data }, { on := 11, ground := Ground.chain }, { on := 8, ground := Ground.guard }], guard := some (8, true) }) rfl (fun K hK => ?_) AllReadyH.nil
      rw [if_neg (Bool.eq_false_iff.1 (by rfl))]
      refine hK.out _ _ hHeld (fun hHeld => ?_)
      clear hK K
      try simp only [Act.put, List.setIfInBounds_toArray, List.set_cons_zero, List.set_cons_succ]
      refine wpAnyH_ready (rs := [17]) (by kernel_rfl) (by simp) ?_
      refine AllReadyH.cons (o := { dst := some 22, op := Op.call { callee := Callee.value (Operand.func 48), args := #[Operand.tmp 14, Operand.tmp 19, Operand.tmp 21], argTypes := #[3, 74, 25] }, type := 4, pos := "directory.go:209", after := #[{ on := 9, ground := Ground.data }, { on := 14, ground := Ground.data }, { on := 16, ground := Ground.data }, { on := 14, ground := Ground.chain }, { on := 8, ground := Ground.guard }], guard := some (8, true) }) rfl (fun K hK => ?_) AllReadyH.nil
      rw [if_neg (Bool.eq_false_iff.1 (by rfl))]
      refine hK.out _ _ hHeld (fun hHeld => ?_)
      clear hK K
      try simp only [Act.put, List.setIfInBounds_toArray, List.set_cons_zero, List.set_cons_succ]
      refine wpAnyH_take (i := 18) (oi := { dst := some 23, op := Op.pick (Operand.tmp 13) (Operand.tmp 22) (Operand.const (Value.bool false)), type := 4, pos := "directory.go:209", after := #[{ on := 8, ground := Ground.data }, { on := 17, ground := Ground.data }], guard := none }) (v := ?_) rfl (by kernel_rfl) (by kernel_rfl) (by kernel_rfl) (fun _ _ _ h => h) (Or.inl ⟨by rfl, ?_⟩) hHeld ?_
      rotate_left
      · intro wz hSw
        go_simp
        all_goals (with_reducible rfl)
      try simp only [Act.put, List.setIfInBounds_toArray, List.set_cons_zero, List.set_cons_succ]
      refine wpAnyH_take (i := 19) (oi := { dst := some 4, op := Op.assign (Operand.tmp 23), type := 4, pos := "directory.go:209", after := #[{ on := 18, ground := Ground.data }, { on := 17, ground := Ground.chain }, { on := 0, ground := Ground.phase }, { on := 1, ground := Ground.phase }, { on := 2, ground := Ground.phase }, { on := 3, ground := Ground.phase }, { on := 4, ground := Ground.phase }, { on := 5, ground := Ground.phase }, { on := 6, ground := Ground.phase }, { on := 7, ground := Ground.phase }, { on := 8, ground := Ground.phase }, { on := 9, ground := Ground.phase }, { on := 10, ground := Ground.phase }, { on := 11, ground := Ground.phase }, { on := 12, ground := Ground.phase }, { on := 13, ground := Ground.phase }, { on := 14, ground := Ground.phase }, { on := 15, ground := Ground.phase }, { on := 16, ground := Ground.phase }, { on := 17, ground := Ground.phase }, { on := 18, ground := Ground.phase }], guard := none }) (v := ?_) rfl (by kernel_rfl) (by kernel_rfl) (by kernel_rfl) (fun _ _ _ h => h) (Or.inl ⟨by rfl, ?_⟩) hHeld ?_
      rotate_left
      · intro wz hSw
        go_simp
        all_goals (with_reducible rfl)
      try simp only [Act.put, List.setIfInBounds_toArray, List.set_cons_zero, List.set_cons_succ]
      refine wpAnyH_done (by kernel_rfl) ?_ _
      go_wp2_with fail
      go_ret
      exact ⟨by rw [hv.out]; rfl, hHeld.2.2⟩
  · have h1' : decide (1 ≤ x.no) = false := by simpa using h1
    have hv : Hid (Go.Dr.signedB 4 pub x = false) := by show _ = _; unfold Go.Dr.signedB; rw [decide_eq_false (fun h => h1 h.1)]; rfl
    refine wp_region_held_drew (S := fun wz => SdW w tb x wz) (by kernel_rfl) (hM.drew) (fun hHeld => ?_)
    generalize W.drew = W0 at *
    refine wpAnyH_take (i := 0) (oi := { dst := some 5, op := Op.fieldAddr 27 (Operand.tmp 3) 0, type := 0, pos := "directory.go:209", after := #[], guard := none }) (v := ?_) rfl (by kernel_rfl) (by kernel_rfl) (by kernel_rfl) (fun _ _ _ h => h) (Or.inl ⟨by rfl, ?_⟩) hHeld ?_
    rotate_left
    · intro wz hSw
      go_simp
      all_goals (with_reducible rfl)
    try simp only [Act.put, List.setIfInBounds_toArray, List.set_cons_zero, List.set_cons_succ]
    refine wpAnyH_take (i := 1) (oi := { dst := some 6, op := Op.load 3 (Operand.tmp 5), type := 3, pos := "directory.go:209", after := #[{ on := 0, ground := Ground.data }], guard := none }) (v := ?_) rfl (by kernel_rfl) (by kernel_rfl) (by kernel_rfl) (fun _ _ _ h => h) (Or.inl ⟨by rfl, ?_⟩) hHeld ?_
    rotate_left
    · intro wz hSw
      have q0 := c0q.out wz hSw
      go_simp
      all_goals (with_reducible rfl)
    try simp only [Act.put, List.setIfInBounds_toArray, List.set_cons_zero, List.set_cons_succ]
    refine wpAnyH_take (i := 2) (oi := { dst := some 7, op := Op.binOp BinOp.geq 3 (Operand.tmp 6) (Operand.const (Value.int IntKind.i64 1)) 3, type := 4, pos := "directory.go:209", after := #[{ on := 1, ground := Ground.data }], guard := none }) (v := ?_) rfl (by kernel_rfl) (by kernel_rfl) (by kernel_rfl) (fun _ _ _ h => h) (Or.inl ⟨by rfl, ?_⟩) hHeld ?_
    rotate_left
    · intro wz hSw
      go_simp
      all_goals (with_reducible rfl)
    try simp only [Act.put, List.setIfInBounds_toArray, List.set_cons_zero, List.set_cons_succ]
    refine wpAnyH_take (i := 3) (oi := { dst := some 8, op := Op.move (Operand.tmp 7), type := 4, pos := "directory.go:209", after := #[{ on := 2, ground := Ground.data }], guard := none }) (v := ?_) rfl (by kernel_rfl) (by kernel_rfl) (by kernel_rfl) (fun _ _ _ h => h) (Or.inl ⟨by rfl, ?_⟩) hHeld ?_
    rotate_left
    · intro wz hSw
      go_simp
      all_goals (with_reducible rfl)
    try simp only [Act.put, List.setIfInBounds_toArray, List.set_cons_zero, List.set_cons_succ]
    refine wpAnyH_take (i := 4) (oi := { dst := some 9, op := Op.fieldAddr 27 (Operand.tmp 3) 0, type := 0, pos := "directory.go:209", after := #[{ on := 3, ground := Ground.guard }], guard := some (3, true) }) (v := undef) rfl (by kernel_rfl) (by kernel_rfl) (by kernel_rfl) (fun _ _ _ h => h) (Or.inr ⟨by rfl, rfl⟩) hHeld ?_
    try simp only [Act.put, List.setIfInBounds_toArray, List.set_cons_zero, List.set_cons_succ]
    refine wpAnyH_take (i := 5) (oi := { dst := some 10, op := Op.load 3 (Operand.tmp 9), type := 3, pos := "directory.go:209", after := #[{ on := 4, ground := Ground.data }, { on := 3, ground := Ground.guard }], guard := some (3, true) }) (v := undef) rfl (by kernel_rfl) (by kernel_rfl) (by kernel_rfl) (fun _ _ _ h => h) (Or.inr ⟨by rfl, rfl⟩) hHeld ?_
    try simp only [Act.put, List.setIfInBounds_toArray, List.set_cons_zero, List.set_cons_succ]
    refine wpAnyH_take (i := 6) (oi := { dst := some 11, op := Op.binOp BinOp.leq 3 (Operand.tmp 10) (Operand.const (Value.int IntKind.i64 65536)) 3, type := 4, pos := "directory.go:209", after := #[{ on := 5, ground := Ground.data }, { on := 3, ground := Ground.guard }], guard := some (3, true) }) (v := undef) rfl (by kernel_rfl) (by kernel_rfl) (by kernel_rfl) (fun _ _ _ h => h) (Or.inr ⟨by rfl, rfl⟩) hHeld ?_
    try simp only [Act.put, List.setIfInBounds_toArray, List.set_cons_zero, List.set_cons_succ]
    refine wpAnyH_take (i := 7) (oi := { dst := some 12, op := Op.pick (Operand.tmp 8) (Operand.tmp 11) (Operand.const (Value.bool false)), type := 4, pos := "directory.go:209", after := #[{ on := 3, ground := Ground.data }, { on := 6, ground := Ground.data }], guard := none }) (v := ?_) rfl (by kernel_rfl) (by kernel_rfl) (by kernel_rfl) (fun _ _ _ h => h) (Or.inl ⟨by rfl, ?_⟩) hHeld ?_
    rotate_left
    · intro wz hSw
      go_simp
      all_goals (with_reducible rfl)
    try simp only [Act.put, List.setIfInBounds_toArray, List.set_cons_zero, List.set_cons_succ]
    refine wpAnyH_take (i := 8) (oi := { dst := some 13, op := Op.move (Operand.tmp 12), type := 4, pos := "directory.go:209", after := #[{ on := 7, ground := Ground.data }, { on := 3, ground := Ground.chain }], guard := none }) (v := ?_) rfl (by kernel_rfl) (by kernel_rfl) (by kernel_rfl) (fun _ _ _ h => h) (Or.inl ⟨by rfl, ?_⟩) hHeld ?_
    rotate_left
    · intro wz hSw
      go_simp
      all_goals (with_reducible rfl)
    try simp only [Act.put, List.setIfInBounds_toArray, List.set_cons_zero, List.set_cons_succ]
    refine wpAnyH_take (i := 9) (oi := { dst := some 14, op := Op.move (Operand.tmp 0), type := 3, pos := "directory.go:209", after := #[{ on := 8, ground := Ground.guard }], guard := some (8, true) }) (v := undef) rfl (by kernel_rfl) (by kernel_rfl) (by kernel_rfl) (fun _ _ _ h => h) (Or.inr ⟨by rfl, rfl⟩) hHeld ?_
    try simp only [Act.put, List.setIfInBounds_toArray, List.set_cons_zero, List.set_cons_succ]
    refine wpAnyH_take (i := 10) (oi := { dst := some 15, op := Op.load 27 (Operand.tmp 3), type := 27, pos := "directory.go:209", after := #[{ on := 8, ground := Ground.guard }], guard := some (8, true) }) (v := undef) rfl (by kernel_rfl) (by kernel_rfl) (by kernel_rfl) (fun _ _ _ h => h) (Or.inr ⟨by rfl, rfl⟩) hHeld ?_
    try simp only [Act.put, List.setIfInBounds_toArray, List.set_cons_zero, List.set_cons_succ]
    refine wpAnyH_take (i := 15) (oi := { dst := some 20, op := Op.fieldAddr 27 (Operand.tmp 3) 3, type := 0, pos := "directory.go:209", after := #[{ on := 8, ground := Ground.guard }], guard := some (8, true) }) (v := undef) rfl (by kernel_rfl) (by kernel_rfl) (by kernel_rfl) (fun _ _ _ h => h) (Or.inr ⟨by rfl, rfl⟩) hHeld ?_
    try simp only [Act.put, List.setIfInBounds_toArray, List.set_cons_zero, List.set_cons_succ]
    refine wpAnyH_take (i := 16) (oi := { dst := some 21, op := Op.load 25 (Operand.tmp 20), type := 25, pos := "directory.go:209", after := #[{ on := 15, ground := Ground.data }, { on := 8, ground := Ground.guard }], guard := some (8, true) }) (v := undef) rfl (by kernel_rfl) (by kernel_rfl) (by kernel_rfl) (fun _ _ _ h => h) (Or.inr ⟨by rfl, rfl⟩) hHeld ?_
    try simp only [Act.put, List.setIfInBounds_toArray, List.set_cons_zero, List.set_cons_succ]
    refine wpAnyH_ready (rs := [11]) (by kernel_rfl) (by simp) ?_
    refine AllReadyH.cons (o := { dst := some 16, op := Op.call { callee := Callee.value (Operand.func 42), args := #[Operand.tmp 15], argTypes := #[27] }, type := 70, pos := "directory.go:209", after := #[{ on := 10, ground := Ground.data }, { on := 8, ground := Ground.chain }, { on := 8, ground := Ground.guard }], guard := some (8, true) }) rfl (fun K hK => ?_) AllReadyH.nil
    rw [if_neg (Bool.eq_false_iff.1 (by rfl))]
    refine hK.out _ _ hHeld (fun hHeld => ?_)
    clear hK K
    try simp only [Act.put, List.setIfInBounds_toArray, List.set_cons_zero, List.set_cons_succ]
    refine wpAnyH_take (i := 12) (oi := { dst := some 17, op := Op.nilCheck (Operand.tmp 16), type := 0, pos := "directory.go:209", after := #[{ on := 11, ground := Ground.data }, { on := 8, ground := Ground.guard }], guard := some (8, true) }) (v := undef) rfl (by kernel_rfl) (by kernel_rfl) (by kernel_rfl) (fun _ _ _ h => h) (Or.inr ⟨by rfl, rfl⟩) hHeld ?_
    try simp only [Act.put, List.setIfInBounds_toArray, List.set_cons_zero, List.set_cons_succ]
    refine wpAnyH_take (i := 13) (oi := { dst := some 18, op := Op.fieldAddr 85 (Operand.tmp 17) 0, type := 0, pos := "directory.go:209", after := #[{ on := 12, ground := Ground.data }, { on := 8, ground := Ground.guard }], guard := some (8, true) }) (v := undef) rfl (by kernel_rfl) (by kernel_rfl) (by kernel_rfl) (fun _ _ _ h => h) (Or.inr ⟨by rfl, rfl⟩) hHeld ?_
    try simp only [Act.put, List.setIfInBounds_toArray, List.set_cons_zero, List.set_cons_succ]
    refine wpAnyH_ready (rs := [14]) (by kernel_rfl) (by simp) ?_
    refine AllReadyH.cons (o := { dst := some 19, op := Op.call { callee := Callee.value (Operand.func 49), args := #[Operand.tmp 18], argTypes := #[83] }, type := 74, pos := "directory.go:209", after := #[{ on := 13, ground := Ground.data }, { on := 11, ground := Ground.chain }, { on := 8, ground := Ground.guard }], guard := some (8, true) }) rfl (fun K hK => ?_) AllReadyH.nil
    rw [if_neg (Bool.eq_false_iff.1 (by rfl))]
    refine hK.out _ _ hHeld (fun hHeld => ?_)
    clear hK K
    try simp only [Act.put, List.setIfInBounds_toArray, List.set_cons_zero, List.set_cons_succ]
    refine wpAnyH_ready (rs := [17]) (by kernel_rfl) (by simp) ?_
    refine AllReadyH.cons (o := { dst := some 22, op := Op.call { callee := Callee.value (Operand.func 48), args := #[Operand.tmp 14, Operand.tmp 19, Operand.tmp 21], argTypes := #[3, 74, 25] }, type := 4, pos := "directory.go:209", after := #[{ on := 9, ground := Ground.data }, { on := 14, ground := Ground.data }, { on := 16, ground := Ground.data }, { on := 14, ground := Ground.chain }, { on := 8, ground := Ground.guard }], guard := some (8, true) }) rfl (fun K hK => ?_) AllReadyH.nil
    rw [if_neg (Bool.eq_false_iff.1 (by rfl))]
    refine hK.out _ _ hHeld (fun hHeld => ?_)
    clear hK K
    try simp only [Act.put, List.setIfInBounds_toArray, List.set_cons_zero, List.set_cons_succ]
    refine wpAnyH_take (i := 18) (oi := { dst := some 23, op := Op.pick (Operand.tmp 13) (Operand.tmp 22) (Operand.const (Value.bool false)), type := 4, pos := "directory.go:209", after := #[{ on := 8, ground := Ground.data }, { on := 17, ground := Ground.data }], guard := none }) (v := ?_) rfl (by kernel_rfl) (by kernel_rfl) (by kernel_rfl) (fun _ _ _ h => h) (Or.inl ⟨by rfl, ?_⟩) hHeld ?_
    rotate_left
    · intro wz hSw
      go_simp
      all_goals (with_reducible rfl)
    try simp only [Act.put, List.setIfInBounds_toArray, List.set_cons_zero, List.set_cons_succ]
    refine wpAnyH_take (i := 19) (oi := { dst := some 4, op := Op.assign (Operand.tmp 23), type := 4, pos := "directory.go:209", after := #[{ on := 18, ground := Ground.data }, { on := 17, ground := Ground.chain }, { on := 0, ground := Ground.phase }, { on := 1, ground := Ground.phase }, { on := 2, ground := Ground.phase }, { on := 3, ground := Ground.phase }, { on := 4, ground := Ground.phase }, { on := 5, ground := Ground.phase }, { on := 6, ground := Ground.phase }, { on := 7, ground := Ground.phase }, { on := 8, ground := Ground.phase }, { on := 9, ground := Ground.phase }, { on := 10, ground := Ground.phase }, { on := 11, ground := Ground.phase }, { on := 12, ground := Ground.phase }, { on := 13, ground := Ground.phase }, { on := 14, ground := Ground.phase }, { on := 15, ground := Ground.phase }, { on := 16, ground := Ground.phase }, { on := 17, ground := Ground.phase }, { on := 18, ground := Ground.phase }], guard := none }) (v := ?_) rfl (by kernel_rfl) (by kernel_rfl) (by kernel_rfl) (fun _ _ _ h => h) (Or.inl ⟨by rfl, ?_⟩) hHeld ?_
    rotate_left
    · intro wz hSw
      go_simp
      all_goals (with_reducible rfl)
    try simp only [Act.put, List.setIfInBounds_toArray, List.set_cons_zero, List.set_cons_succ]
    refine wpAnyH_done (by kernel_rfl) ?_ _
    go_wp2_with fail
    go_ret
    exact ⟨by rw [hv.out]; rfl, hHeld.2.2⟩
end Go.Proofs.YthhblcbnnmoojaaGreatDoor
namespace Go.Dj
/-- a long load under a guard that holds. -/
theorem wpListIn_load_g {F : Fence} {n : Nat} {P : Program} {ops : Array Oper} {rest : List Oper} {op : Oper} {a : Act} {w : World} {Q : Exit → Act → World → Prop} (hw : Region.wanted op (yielded ops a.tmps) = true) (ty : TypeId) (x : Operand) (ho : op.op = .load ty x)
    (b o : Nat) (hx : a.eval x = .pointer (some ⟨b, o, none⟩)) (cs : List Value) (d : TypeDesc) (hc : w.rangeAt b o cs)
    (hu : P.underlying ty = some d) (hd : d.isRow = true) (hi : (P.info? ty).map (·.size) = some cs.length)
    (h : wpListIn F n P ops Q rest (a.put op.dst (.agg cs.toArray)) w) : wpListIn F n P ops Q (op :: rest) a w := by
  refine BigFrame.wpListIn_want hw fun K hK' => ?_
  unfold Oper.wpIn
  refine ⟨?_, ?_⟩
  · simp [Oper.about, ho]
  · rw [Oper.semAt_plain F _ _ (by rw [ho]; intro c hc'; cases hc')]
    unfold execOp
    simp only [ho, hx, Instr.loadAt, Instr.sureAddr, Sem.run_bind, Sem.run_pure, Result.andThen_ok, run_loadVar_mid w b o ty cs d hc hu hd hi]
    exact hK' _ _ h
/-- panics barred. -/
def NoPan (Q : Exit → Act → World → Prop) : Exit → Act → World → Prop
  | .panic _, _, _ => False
  | e, a, w => Q e a w
theorem wp_nopan {P : Program} {c : Code} {Q : Exit → Act → World → Prop} {a : Act} {w : World} (h : c.wp P (NoPan Q) a w) : c.wp P Q a w :=
  wp_mono h (fun e a w h => by cases e <;> first | exact h | exact h.elim)
theorem nopan_normal {Q : Exit → Act → World → Prop} {a : Act} {w : World} (h : Q .normal a w) : NoPan Q .normal a w := h
end Go.Dj
namespace Go.Proofs.YthhblcbnnmoojaaGreatDoor
open Go.RowKit Go.Mem Go.Shelf
open Go.Dr (Lst Rt)
attribute [local go_sem] Oper.semAt_some

/-- what the loop keeps. -/
def VrI (wL : World) (tb : Nat) (root : List Nat) (pre : List (Nat × List Nat)) (W : World) : Prop :=
  Blk W (tb + 2) 4 [.bool (Go.Dr.lastOk root pre)] ∧ Blk W tb 23 (bv root) ∧ Below tb wL W
theorem vrI_deaf (wL : World) (tb q : Nat) (root : List Nat) (hq : tb + 3 ≤ q) (hs : q < wL.heap.size) : Deaf (LoopR q wL.heap.size) (VrI wL tb root) := by
  rintro s A C row ⟨h1, h3, h4⟩ hg hr
  have hr' : ∀ r, row = some r → tb + 3 ≤ r := fun r e => by have := hr r e; unfold LoopR at this; omega
  exact ⟨h1.grown hg (fun e => by have := hr' _ e.symm; omega), h3.grown hg (fun e => by have := hr' _ e.symm; omega), h4.grown hg (by have := h4.size; omega) (fun r e => by have := hr' r e; omega)⟩

/-- what the walk keeps ahead of the loop. -/
def VrW (w : World) (tb : Nat) (root : List Nat) (x : Lst) (wz : World) : Prop := Blk wz tb 23 (bv root) ∧ Blk wz (tb + 1) 36 (gC x) ∧ Blk wz (tb + 1 + 1) 4 [.bool false] ∧ Below w.heap.size w wz
section
variable {w wz wq : World} {tb : Nat} {root : List Nat} {x : Lst}
theorem VrW.drew (h : VrW w tb root x wz) : VrW w tb root x wz.drew := ⟨h.1, h.2.1, h.2.2.1, h.2.2.2.drew⟩
theorem VrW.next (h : VrW w tb root x wz) (hb : Below wz.heap.size wz wq) : VrW w tb root x wq := ⟨h.1.below hb h.1.lt, h.2.1.below hb h.2.1.lt, h.2.2.1.below hb h.2.2.1.lt, h.2.2.2.trans (hb.mono h.2.2.2.size)⟩
end

set_option maxRecDepth 20000 in
set_option maxHeartbeats 8000000 in
theorem verify_in (root : List Nat) (hro : Dig root) (x : Lst) (hx : OkG x) (nx : Bool) (path : List (List Nat)) (a : Option Addr) (n c : Nat) (w : World) (HT : Tabs w) (H : DS w a n c path) (hd0 : 0 ≤ x.dev) (hd1 : x.dev < 512) (hn9 : n = 9) :
    Calls Tryz.prog 41 #[.agg (bv root).toArray, .agg (gC x).toArray, .bool nx, .slice a n c] w (RetBo (Go.Dr.verP root x nx path) w) := by
  have HT' := Lib.hid HT; have H' := Lib.hid H; have hx' := Lib.hid hx; have hro' := Lib.hid hro
  have hlen := H.len
  subst hn9
  clear HT H hx hro
  obtain ⟨nn, hnn⟩ : ∃ nn : Nat, Hid (512 + x.dev = (nn : Int) ∧ nn = 512 + x.dev.toNat) := ⟨512 + x.dev.toNat, by omega, rfl⟩
  have hnr : Hid (nn / 2 ^ 9 = 1) := by show _ = _; rw [hnn.out.2]; exact Go.Dr.dev_root ⟨hd0, hd1⟩
  have hn2 : Hid (nn < 1024) := by have := hnn.out.1; show _ < _; omega
  obtain ⟨d0, hd⟩ : ∃ d0, Hid (Go.Dr.leafOf x nx = d0) := ⟨_, rfl⟩
  have hdk : Hid (d0.length = 32 ∧ ∀ u ∈ d0, u < 256) := by rw [← hd.out]; exact ⟨Go.Dr.leafOf_length _ _, Go.Dr.leafOf_lt _ _⟩
  have hres : Hid (∀ xs, xs = Go.Dr.climbS nn d0 path → Go.Dr.lastOk root xs = Go.Dr.verP root x nx path) := fun xs e => by
    rw [e, Go.Dr.lastOk_climb hlen hnr.out]
    unfold Go.Dr.verP
    rw [decide_eq_true (And.intro hd0 hd1), decide_eq_true hlen, ← hnn.out.2, hd.out]
    simp
  have hlf := Lib.hid (fun W hT => leaf_any x hx'.out nx W hT)
  rw [hd.out] at hlf
  obtain ⟨V, hV⟩ : ∃ V, Hid (Go.Dr.verP root x nx path = V) := ⟨_, rfl⟩
  rw [hV.out] at hres ⊢
  obtain ⟨tb, htb⟩ : ∃ tb, Hid (w.heap.size = tb) := ⟨_, rfl⟩
  have h1' : decide (x.dev < 0) = false := by simpa using hd0
  have h2' : decide (512 ≤ x.dev) = false := by simpa using hd1
  refine callsIn_wide (n := 6).1 ?_
  refine callsIn_of_wp_marks Tryz.func41 rfl trivial ?_ rfl
  simp only [Tryz.ntmps41, List.size_toArray, List.length_cons, List.length_nil, Nat.reduceAdd, Nat.reduceSub, Array.replicate_succ, Array.replicate_zero, List.push_toArray, List.append_toArray, List.nil_append, List.cons_append]
  gi_upto_region 1 with fail
  rw [htb.out]
  generalize hW : World.alloc _ _ = W
  have hR : Hid (Blk W tb 23 (bv root)) := by rw [← hW, ← htb.out]; exact ((Blk.new w _ (bv root)).alloc _).alloc _
  have hX : Hid (Blk W (tb + 1) 36 (gC x)) := by
    rw [← hW, ← htb.out]
    have := (Blk.new (w.alloc (.cells (bv root).toArray 23)) 36 (gC x)).alloc (.cells #[.bool false] 4)
    rwa [World.size_alloc] at this
  have hO : Hid (Blk W (tb + 1 + 1) 4 [.bool false]) := by
    rw [← hW, ← htb.out]
    have := Blk.new ((w.alloc (.cells (bv root).toArray 23)).alloc (.cells (gC x).toArray 36)) 4 [.bool false]
    rwa [World.size_alloc, World.size_alloc] at this
  have hb : Hid (Below w.heap.size w W) := by rw [← hW]; exact (((Below.refl _ w).alloc (Nat.le_refl _) _).alloc (by simp) _).alloc (by simp; omega) _
  clear hW
  have c0 := hX.out.at_ (i := 0) (x := .int .i64 x.dev) rfl
  have c1 := hX.out.at_ (i := 1) (x := .int .i64 x.ver) rfl
  have c2 := hX.out.at_ (i := 2) (x := .int .i64 x.leaf) rfl
  have c3 := hX.out.at_ (i := 3) (x := .int .i64 x.vers) rfl
  have c4 := hX.out.at_ (i := 4) (x := .bool x.gone) rfl
  gi_upto_region 3 with fail
  have hM : VrW w tb root x W := ⟨hR.out, hX.out, hO.out, hb.out⟩
  clear hb hX hR hO c0 c1 c2 c3 c4
  refine wpIn_wide.2 (Go.Dj.wp_nopan ?_)
  refine wp_region_held_drew (S := fun wz => VrW w tb root x wz) (by kernel_rfl) (hM.drew) (fun hHeld => ?_)
  generalize W.drew = W0 at *
  refine wpAnyH_take (i := 0) (oi := { dst := some 24, op := Op.fieldAddr 36 (Operand.tmp 5) 0, type := 0, pos := "directory.go:138", after := #[], guard := none }) (v := ?_) rfl (by kernel_rfl) (by kernel_rfl) (by kernel_rfl) (fun _ _ _ h => h) (Or.inl ⟨by rfl, ?_⟩) hHeld ?_
  rotate_left
  · intro wz hSw
    go_simp
    all_goals (with_reducible rfl)
  try simp only [Act.put, List.setIfInBounds_toArray, List.set_cons_zero, List.set_cons_succ]
  refine wpAnyH_take (i := 1) (oi := { dst := some 25, op := Op.load 3 (Operand.tmp 24), type := 3, pos := "directory.go:138", after := #[{ on := 0, ground := Ground.data }], guard := none }) (v := ?_) rfl (by kernel_rfl) (by kernel_rfl) (by kernel_rfl) (fun _ _ _ h => h) (Or.inl ⟨by rfl, ?_⟩) hHeld ?_
  rotate_left
  · intro wz hSw
    have q0 := hSw.2.1.at_ (i := 0) (x := .int .i64 x.dev) rfl
    go_simp
    all_goals (with_reducible rfl)
  try simp only [Act.put, List.setIfInBounds_toArray, List.set_cons_zero, List.set_cons_succ]
  refine wpAnyH_take (i := 2) (oi := { dst := some 26, op := Op.load 36 (Operand.tmp 5), type := 36, pos := "directory.go:138", after := #[], guard := none }) (v := ?_) rfl (by kernel_rfl) (by kernel_rfl) (by kernel_rfl) (fun _ _ _ h => h) (Or.inl ⟨by rfl, ?_⟩) hHeld ?_
  rotate_left
  · intro wz hSw
    have q0 := hSw.2.1.at_ (i := 0) (x := .int .i64 x.dev) rfl
    have q1 := hSw.2.1.at_ (i := 1) (x := .int .i64 x.ver) rfl
    have q2 := hSw.2.1.at_ (i := 2) (x := .int .i64 x.leaf) rfl
    have q3 := hSw.2.1.at_ (i := 3) (x := .int .i64 x.vers) rfl
    have q4 := hSw.2.1.at_ (i := 4) (x := .bool x.gone) rfl
    go_simp
    all_goals (with_reducible rfl)
  try simp only [Act.put, List.setIfInBounds_toArray, List.set_cons_zero, List.set_cons_succ]
  refine wpAnyH_take (i := 3) (oi := { dst := some 27, op := Op.move (Operand.tmp 2), type := 4, pos := "directory.go:138", after := #[], guard := none }) (v := ?_) rfl (by kernel_rfl) (by kernel_rfl) (by kernel_rfl) (fun _ _ _ h => h) (Or.inl ⟨by rfl, ?_⟩) hHeld ?_
  rotate_left
  · intro wz hSw
    go_simp
    all_goals (with_reducible rfl)
  try simp only [Act.put, List.setIfInBounds_toArray, List.set_cons_zero, List.set_cons_succ]
  refine wpAnyH_take (i := 5) (oi := { dst := some 29, op := Op.move (Operand.tmp 3), type := 66, pos := "directory.go:138", after := #[], guard := none }) (v := ?_) rfl (by kernel_rfl) (by kernel_rfl) (by kernel_rfl) (fun _ _ _ h => h) (Or.inl ⟨by rfl, ?_⟩) hHeld ?_
  rotate_left
  · intro wz hSw
    go_simp
    all_goals (with_reducible rfl)
  try simp only [Act.put, List.setIfInBounds_toArray, List.set_cons_zero, List.set_cons_succ]
  refine wpAnyH_ready (rs := [4]) (by kernel_rfl) (by simp) ?_
  refine AllReadyH.cons (o := { dst := some 28, op := Op.call { callee := Callee.value (Operand.func 84), args := #[Operand.tmp 26, Operand.tmp 27], argTypes := #[36, 4] }, type := 23, pos := "directory.go:138", after := #[{ on := 2, ground := Ground.data }, { on := 3, ground := Ground.data }], guard := none }) rfl (fun K hK => ?_) AllReadyH.nil
  rw [if_pos (by rfl)]
  show Oper.wp _ _ _ _ K _
  go_simp
  go_at_call 84
  refine (hlf.out _ (HT'.out.below hHeld.2.2.2)).mono ?_
  rintro e W1 ⟨rfl, hst⟩
  refine hK.out _ _ (hHeld.next hst) (fun hHeld2 => ?_)
  clear hHeld
  have hHeld := hHeld2
  clear hHeld2
  clear hK K
  try simp only [Act.put, List.setIfInBounds_toArray, List.set_cons_zero, List.set_cons_succ]
  refine wpAnyH_ready (rs := [6]) (by kernel_rfl) (by simp) ?_
  refine AllReadyH.cons (o := { dst := some 30, op := Op.call { callee := Callee.value (Operand.func 83), args := #[Operand.tmp 25, Operand.tmp 28, Operand.tmp 29], argTypes := #[3, 23, 66] }, type := 121, pos := "directory.go:138", after := #[{ on := 1, ground := Ground.data }, { on := 4, ground := Ground.data }, { on := 5, ground := Ground.data }, { on := 4, ground := Ground.chain }], guard := none }) rfl (fun K hK => ?_) AllReadyH.nil
  rw [if_pos (by rfl)]
  show Oper.wp _ _ _ _ K _
  go_simp
  go_at_call 83
  refine (climb_any x.dev d0 hdk.out.1 a 9 c _).mono ?_
  rintro e W2 ⟨rfl, rfl⟩
  obtain ⟨sb, hsb⟩ : ∃ sb, Hid (W1.heap.size = sb) := ⟨_, rfl⟩
  have hts : Hid (tb + 3 ≤ sb) := by have := hHeld.2.2.1.lt; have := hsb.out; show _ ≤ _; omega
  rw [hsb.out]
  generalize hwL : ((W1.alloc _).alloc _).alloc _ = wL
  have hsz : Hid (wL.heap.size = sb + 3) := by show _ = _; rw [← hwL, ← hsb.out]; simp
  have hBV : Hid (Blk wL sb 3 [.int .i64 x.dev]) := by rw [← hwL, ← hsb.out]; exact ((Blk.new W1 _ [.int .i64 x.dev]).alloc _).alloc _
  have hBQ : Hid (Blk wL (sb + 1) 23 (bv d0)) := by
    rw [← hwL, ← hsb.out]
    have := (Blk.new (W1.alloc (.cells #[.int .i64 x.dev] 3)) 23 (bv d0)).alloc (.cells #[.slice a 9 c] 66)
    rwa [World.size_alloc] at this
  have hBP : Hid (Blk wL (sb + 2) 66 [.slice a 9 c]) := by
    rw [← hwL, ← hsb.out]
    have := Blk.new ((W1.alloc (.cells #[.int .i64 x.dev] 3)).alloc (.cells (bv d0).toArray 23)) 66 [.slice a 9 c]
    rwa [World.size_alloc, World.size_alloc] at this
  have hbel : Below W1.heap.size W1 wL := by rw [← hwL]; exact (((Below.refl _ W1).alloc (Nat.le_refl _) _).alloc (by simp) _).alloc (by simp; omega) _
  refine hK.out _ _ (hHeld.next hbel) (fun hHeld2 => ?_)
  clear hHeld hbel hwL hsb
  have hHeld := hHeld2
  clear hHeld2
  clear hK K
  try simp only [Act.put, List.setIfInBounds_toArray, List.set_cons_zero, List.set_cons_succ]
  refine wpAnyH_done (by kernel_rfl) ?_ _
  refine Go.Dj.nopan_normal ?_
  gi_wp2_with fail
  have hlt := hBV.out.lt
  have hszo := hsz.out
  have htso := hts.out
  have htbo := htb.out
  have hdevI := hnn.out.1
  have hseq : SeqOwn (sb + 1) (tb + 2) Fence.wide 5 Tryz.prog 123 #[.pointer (some ⟨sb, 0, none⟩), .pointer (some ⟨sb + 2, 0, none⟩), .pointer (some ⟨sb + 1, 0, none⟩)] encD (fun xs => xs = Go.Dr.climbS nn d0 path) (fun pre => pre <+: Go.Dr.climbS nn d0 path) ExD 9 wL :=
    fun l J Jx W hW hl0 hl1 hJ hY h0 => climbIter_in l sb (sb + 2) (sb + 1) wL.heap.size (tb + 2) nn x.dev d0 path a 9 c w J Jx W hdevI hn2.out HT'.out H'.out hdk.out (by omega) (by omega) (by omega) (by omega) (by omega)
      ((hBV.out.below hW hBV.out.lt).at_ (i := 0) rfl) ((hBP.out.below hW hBP.out.lt).at_ (i := 0) rfl) (hBQ.out.below hW hBQ.out.lt) (.of (hHeld.2.2.2.trans (hW.mono (by omega)))) hJ hY h0
  refine wpIn_range_own (q := sb + 1) (z := tb + 2) (by omega) rfl (by omega) (gf := 123) (lb := #[.pointer (some ⟨sb, 0, none⟩), .pointer (some ⟨sb + 2, 0, none⟩), .pointer (some ⟨sb + 1, 0, none⟩)]) rfl trivial (enters_of Tryz.func123 (by kernel_rfl) rfl)
    hseq (fun _ => rfl) (VrI wL tb root) (fun _ _ _ => False) (vrI_deaf wL tb (sb + 1) root (by omega) (by omega)) (fun c _ _ _ _ h _ _ => h) ⟨hHeld.2.2.1, hHeld.1, Below.refl _ _⟩
    (fun y a' A => ExD y ∧ ∃ g, wL.heap.size ≤ g ∧ Blk A g 23 (bv y.2) ∧ a' = { tmps := #[.agg (bv root).toArray, .agg (gC x).toArray, .bool nx, .slice a 9 c, .pointer (some ⟨tb, 0, none⟩), .pointer (some ⟨tb + 1, 0, none⟩), undef, undef, .pointer (some ⟨tb + 1 + 1, 0, none⟩), .int .i64 (y.1 : Int), .pointer (some ⟨g, 0, none⟩), .pointer (some ⟨tb + 1, 0, none⟩), .int .i64 x.dev, .bool false, .bool false, .pointer (some ⟨tb + 1, 0, none⟩), .int .i64 x.dev, .bool false, .bool false, .bool false, .slice a 9 c, .int .i64 9, .bool false, .bool false, .pointer (some ⟨tb + 1, 0, none⟩), .int .i64 x.dev, .agg #[.int .i64 x.dev, .int .i64 x.ver, .int .i64 x.leaf, .int .i64 x.vers, .bool x.gone], .bool nx, .agg (bv d0).toArray, .slice a 9 c, .func (.func 123) #[] #[.pointer (some ⟨sb, 0, none⟩), .pointer (some ⟨sb + 2, 0, none⟩), .pointer (some ⟨sb + 1, 0, none⟩)], .int .i64 (y.1 : Int), .agg (bv y.2).toArray, undef, undef, undef, undef, undef, undef, undef, undef], defers := [] })
    (fun y a' A C l rc hx hl hg => by
      obtain ⟨hex, g, hgl, hB, e⟩ := hx
      exact ⟨hex, g, hgl, hB.grown hg (fun e => by cases e; rw [show A.heap[_]? = _ from hB] at hl; cases hl), e⟩) ?assign ?body ?done ?stop
  case assign =>
    rintro l pre y A K hI hex hK
    obtain ⟨W2, hP⟩ := put_row (ty := 23) (Blk.new A 23 (bv (List.replicate 32 0))) (x := bv y.2) (by rw [bv_length, bv_length, hex.2.1]; rfl) (by rw [bv_length, hex.2.1]; exact size35) (bv_one y.2)
    have hgw : A.grownBy W2 none := ⟨hP.grown.os, hP.grown.tape, hP.grown.output, Nat.le_trans (by simp) hP.grown.size, fun q hq _ => (hP.grown.block q (by simp; omega) (fun e => by cases e; omega)).trans (Below.heap_alloc A _ q hq)⟩
    have hfin := Lib.hid (fun a' h => hK a' W2 hgw ⟨hex, A.heap.size, hI.2.2.size, hP.blk, h⟩)
    have hP' := Lib.hid hP
    clear hP hK hgw hseq
    gi_wp2_with (first
      | (refine Go.Dj.wpListIn_store_mid (by rfl) 23 (.tmp 10) (.tmp 32) (by rfl) A.heap.size 0 (bv y.2).toArray (by rfl) (by rfl) hP'.out.there hP'.out.info (by simpa using hP'.out.one) ?_
         generalize hWq : World.setCells _ _ _ _ = Wa
         obtain rfl : W2 = Wa := by rw [← hWq]; exact hP'.out.eq
         clear hWq))
    exact hfin.out _ rfl
  case body =>
    rintro l pre y a' A hA hI ⟨hex, g, hgl, hB, rfl⟩ hlen _
    obtain ⟨hO, hR, hbA⟩ := hI
    have f0 := hO.frozen 0
    have o0 := hO.at_ (i := 0) (x := .bool (Go.Dr.lastOk root pre)) rfl
    have hfin : Hid (∀ v, v = Go.Dr.lastOk root (pre ++ [y]) → roundLeft (tb + 2) wL.heap.size (VrI wL tb root) (fun _ _ _ => False) (pre ++ [y]) A .normal { tmps := #[], defers := [] } (A.setCell ⟨tb + 1 + 1, 0, none⟩ (.bool v))) := fun v hv => by
      have hg : A.grownBy (A.setCell ⟨tb + 1 + 1, 0, none⟩ (.bool v)) (some (tb + 2)) := grown_set (World.grownBy.refl A _) (.inl rfl) _
      refine ⟨KeepsFrom.of_grownBy hg (fun j e => by cases e; omega), ⟨hg.size, fun i hi hne => hg.block i (by omega) (fun e => by cases e; exact hne rfl)⟩, ?_, hR.grown hg (fun e => by injection e with e; omega), hbA.grown hg (by have := hbA.size; omega) (fun k e => by cases e; omega)⟩
      rw [← hv]
      exact hO.set 0 _
    rw [show (tb + 2 : Nat) = tb + 1 + 1 from rfl] at f0 o0
    have hsn := Go.Dr.lastOk_snoc root pre y
    by_cases hy1 : y.1 = 1
    · have hy1' : ((y.1 : Int) == 1) = true := by rw [hy1]; rfl
      have heq : ∀ W, (Op.equalIn 10000 23 (.agg (bv y.2).toArray) (.agg (bv root).toArray)).run Tryz.prog W = .ok (decide (y.2 = root)) W := fun W => eq_dig hex.2 hro'.out W
      have hv : Hid (decide (y.2 = root) = Go.Dr.lastOk root (pre ++ [y])) := by show _ = _; rw [hsn, decide_eq_true hy1]; rfl
      have hyr := Lib.hid hB.range
      have hrr := Lib.hid hR.range
      have hyi : Hid ((Tryz.prog.info? 23).map (·.size) = some (bv y.2).length) := by show _ = _; rw [bv_length, hex.2.1]; exact size35
      have hri : Hid ((Tryz.prog.info? 23).map (·.size) = some (bv root).length) := by show _ = _; rw [bv_length, hro'.out.1]; exact size35
      have hu := Tryz.underlying23
      have hfin2 := Lib.hid (hfin.out _ hv.out)
      clear hy1 hex hB hR hO hbA hfin hsn hseq hv
      generalize bv y.2 = D1 at *
      generalize bv root = D2 at *
      generalize decide (y.2 = root) = v at *
      gi_wp2_with (first
        | (refine Go.Dj.wpListIn_load_g (by rfl) 23 (.tmp 10) (by rfl) g 0 (by rfl) D1 _ hyr.out hu (by rfl) hyi.out ?_)
        | (refine Go.Dj.wpListIn_load_g (by rfl) 23 (.tmp 4) (by rfl) tb 0 (by rfl) D2 _ hrr.out hu (by rfl) hri.out ?_))
      exact hfin2.out
    · have hy1' : ((y.1 : Int) == 1) = false := by simp; omega
      have hv : Hid (false = Go.Dr.lastOk root (pre ++ [y])) := by show _ = _; rw [hsn, decide_eq_false hy1]; rfl
      have hfin2 := Lib.hid (hfin.out _ hv.out)
      clear hy1 hex hB hR hO hbA hfin hsn hseq hv
      gi_wp2_with fail
      exact hfin2.out
  case done =>
    rintro D xs W hD hxs ⟨hO, hR, hbA⟩ hK
    have hres2 := hres.out xs hxs
    rw [hres2] at hO
    have c4 := hO.at_ (i := 0) (x := .bool V) rfl
    have f4 := hO.frozen 0
    have hO2 := hO.set 0 (.bool V)
    have hb2 : Below tb wL (W.setCell ⟨tb + 2, 0, none⟩ (.bool V)) := hbA.setCell (p := ⟨tb + 2, 0, none⟩) (by show tb ≤ tb + 2; omega) _
    have hbL : Below w.heap.size w wL := hHeld.2.2.2
    rw [show (tb + 2 : Nat) = tb + 1 + 1 from rfl] at c4 f4 hO2 hb2
    generalize hV2 : W.setCell ⟨tb + 1 + 1, 0, none⟩ (.bool V) = V2 at *
    have hK' : V2.heap[D]? = some (.deferred (some [])) := by rw [← hV2, Below.heap_setCell _ _ _ _ (by show D ≠ tb + 1 + 1; omega)]; exact hK
    have hgp := grownBy_putObj' V2 D (.deferred none)
    have y4 := (hO2.grown hgp (fun e => by cases e; omega)).at_ (i := 0) (x := .bool V) rfl
    have hb3 : Below w.heap.size w V2 := hbL.trans (hb2.mono (Nat.le_of_eq htbo))
    have hbf : Below w.heap.size w (V2.putObj D (.deferred none)) := hb3.grown hgp hb3.size (fun k e => by cases e; omega)
    have hpost : RetBo V w (.returned (.bool V)) (V2.putObj D (.deferred none)) := ⟨rfl, hbf⟩
    clear hO hO2 hR hbA hb2 hb3 hbf hseq hHeld hres2
    gi_wp2_with fail
    refine ⟨by simp, .inl ⟨_, _, rfl, run_takeDeferred hK', .bool V, ?_, hpost⟩⟩
    simp [results, Tryz.f41, go_sem, y4]
  case stop =>
    rintro D c pre W hD hp hf
    exact hf.elim

set_option maxRecDepth 20000 in
set_option maxHeartbeats 4000000 in
theorem verify_no (root : List Nat) (x : Lst) (nx : Bool) (a : Option Addr) (n c : Nat) (_hn : (n : Int) ≤ 9223372036854775807) (w : World) (h : ¬ (0 ≤ x.dev ∧ x.dev < 512 ∧ n = 9)) :
    Calls Tryz.prog 41 #[.agg (bv root).toArray, .agg (gC x).toArray, .bool nx, .slice a n c] w (RetBo false w) := by
  obtain ⟨tb, htb⟩ : ∃ tb, Hid (w.heap.size = tb) := ⟨_, rfl⟩
  have h' := Lib.hid h
  clear h
  go_enter Tryz.func41, Tryz.ntmps41
  go_upto_region 1 with fail
  rw [htb.out]
  generalize hW : World.alloc _ _ = W
  have hX : Hid (Blk W (tb + 1) 36 (gC x)) := by
    rw [← hW, ← htb.out]
    have := (Blk.new (w.alloc (.cells (bv root).toArray 23)) 36 (gC x)).alloc (.cells #[.bool false] 4)
    rwa [World.size_alloc] at this
  have hO : Hid (Blk W (tb + 1 + 1) 4 [.bool false]) := by
    rw [← hW, ← htb.out]
    have := Blk.new ((w.alloc (.cells (bv root).toArray 23)).alloc (.cells (gC x).toArray 36)) 4 [.bool false]
    rwa [World.size_alloc, World.size_alloc] at this
  have hb : Hid (Below w.heap.size w W) := by rw [← hW]; exact (((Below.refl _ w).alloc (Nat.le_refl _) _).alloc (by simp) _).alloc (by simp; omega) _
  clear hW
  have c0 := hX.out.at_ (i := 0) (x := .int .i64 x.dev) rfl
  have c5 := hO.out.at_ (i := 0) (x := .bool false) rfl
  have f5 := hO.out.frozen 0
  have c6 := (hO.out.set 0 (.bool false)).at_ (i := 0) (x := .bool false) rfl
  have hpost : Hid (RetBo false w (.returned (.bool false)) (W.setCell ⟨tb + 1 + 1, 0, none⟩ (.bool false))) := ⟨rfl, hb.out.setCell (p := ⟨tb + 1 + 1, 0, none⟩) (by have := htb.out; show _ ≤ tb + 1 + 1; omega) _⟩
  clear hX hO hb
  have hend : Hid (∀ a : Act, a.tmps.getD 8 undef = .pointer (some ⟨tb + 1 + 1, 0, none⟩) → a.defers = [] → bodyPost Tryz.prog Tryz.f41 (RetBo false w) .ret a (W.setCell ⟨tb + 1 + 1, 0, none⟩ (.bool false))) := fun a h1 h2 => by
    refine bodyPost_ret (v := .bool false) ?_ h2 hpost.out
    have h1' : a.tmps[8]?.getD undef = .pointer (some ⟨tb + 1 + 1, 0, none⟩) := by simpa using h1
    simp [results, Tryz.f41, go_sem, h1', c6]
  by_cases g1 : 0 ≤ x.dev
  · have h1' : decide (x.dev < 0) = false := by simpa using g1
    by_cases g2 : x.dev < 512
    · have h2' : decide (512 ≤ x.dev) = false := by simpa using g2
      have h3 : n ≠ 9 := fun e => h'.out ⟨g1, g2, e⟩
      have h3' : ((n : Int) == 9) = false := by simp; omega
      clear h3
      go_wp2_with fail
      exact hend.out _ rfl rfl
    · have h2' : decide (512 ≤ x.dev) = true := by simpa using g2
      go_wp2_with fail
      exact hend.out _ rfl rfl
  · have h1' : decide (x.dev < 0) = true := by simpa using g1
    go_wp2_with fail
    exact hend.out _ rfl rfl

theorem verify_any (root : List Nat) (hro : Dig root) (x : Lst) (hx : OkG x) (nx : Bool) (path : List (List Nat)) (a : Option Addr) (n c : Nat) (w : World) (HT : Tabs w) (H : DS w a n c path) :
    Calls Tryz.prog 41 #[.agg (bv root).toArray, .agg (gC x).toArray, .bool nx, .slice a n c] w (RetBo (Go.Dr.verP root x nx path) w) := by
  by_cases h : 0 ≤ x.dev ∧ x.dev < 512 ∧ n = 9
  · exact verify_in root hro x hx nx path a n c w HT H h.1 h.2.1 h.2.2
  · have e : Go.Dr.verP root x nx path = false := by
      unfold Go.Dr.verP
      by_cases h1 : 0 ≤ x.dev ∧ x.dev < 512
      · rw [decide_eq_false (p := path.length = 9) (fun e => h ⟨h1.1, h1.2, by rw [← H.len]; exact e⟩)]; simp
      · rw [decide_eq_false h1]; rfl
    rw [e]
    exact verify_no root x nx a n c (by have := H.le; have := H.max; omega) w h

end Go.Proofs.YthhblcbnnmoojaaGreatDoor
