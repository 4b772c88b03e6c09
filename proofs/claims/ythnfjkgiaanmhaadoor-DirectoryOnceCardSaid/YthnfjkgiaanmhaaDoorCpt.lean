/- paths.along with sibling, Copath -/
import Derived.Test.YthnfjkgiaanmhaaDoorUpn
import Derived.RangeFuncBox
import Derived.Stop.RegionWithIn
import Derived.Laws.AppendOwn
namespace Go.Dr
theorem coGo_up : ∀ s n, coGo s n = (upGo s n).map sib
  | 0, _ => rfl
  | s + 1, n => by rw [coGo, upGo, List.map_cons, coGo_up s]
theorem dev_root {dev : Int} (h : 0 ≤ dev ∧ dev < 512) : (512 + dev.toNat) / 2 ^ 9 = 1 := by omega
end Go.Dr
namespace Go
theorem wpIn_append_run {F : Fence} {n : Nat} {P : Program} {op : Oper} {a : Act} {w : World} {K : Act → World → Prop} {Q : Exit → Act → World → Prop} {x y : Operand} {t t' : TypeId} (ho : op.op = .call { callee := .builtin .append, args := #[x, y], argTypes := #[t, t'] }) (v u : Value) (_hF : F.round = F.round) (hx : a.eval x = v) (hy : a.eval y = u) {v' : Value} {w' : World}
    (hr : (Builtin.append_ #[t, t'] op.type #[v, u]).run P w = .ok v' w') (h : K (a.put op.dst v') w') : op.wpIn F n P a w K Q := by
  unfold Oper.wpIn
  refine ⟨?_, ?_⟩
  · simp [Oper.about, ho, resolve, Target.leads, Sem.run_pure]
  · rw [Oper.semAt_plain F _ _ (by rw [ho]; intro c hc'; cases hc')]
    simp [execOp, ho, resolve, invoke, builtin, hx, hy, hr, Result.andThen]
    exact h
end Go
namespace Go.Proofs.YthnfjkgiaanmhaaDoor
open Go.RowKit Go.Mem Go.Shelf
attribute [local go_sem] Oper.semAt_some

def nv (l : List Nat) : List Value := l.map fun (x : Nat) => .int .i64 (x : Int)
theorem nv_append (a b : List Nat) : nv (a ++ b) = nv a ++ nv b := by simp [nv]
theorem nv_one (l : List Nat) : ∀ u ∈ nv l, u.oneCell' = true := by
  intro u hu
  obtain ⟨x, _, rfl⟩ := List.mem_map.1 hu
  rfl
theorem up_any (n : Nat) (w : World) : Calls Tryd.prog 70 #[.int .i64 (n : Int)] w (fun e w' => e = .returned (.func (.func 84) #[] #[.pointer (some ⟨w.heap.size, 0, none⟩)]) ∧ w' = w.alloc (.cells #[.int .i64 (n : Int)] 110)) := by
  go_enter Tryd.func70, Tryd.ntmps70
  go_wp2_with fail
  go_returns
  exact ⟨rfl, rfl⟩
def CoPost (dev : Int) (w : World) (e : Ending) (w' : World) : Prop :=
  (0 ≤ dev ∧ dev < 512 ∧ ∃ a c, e = .returned (.tuple #[.slice a 9 c, .int .i64 0]) ∧ Sl.Reads w' a 9 c 1 (nv (Go.Dr.coD dev)) ∧ Below w.heap.size w w') ∨
  (¬ (0 ≤ dev ∧ dev < 512) ∧ e = .returned (.tuple #[.slice none 0 0, .int .i64 200]) ∧ Below w.heap.size w w')

theorem info3 : (Tryd.prog.info? 3).map (fun i => (i.zero, i.size, i.bytes)) = some (some (.int .i64 0), 1, 8) := by kernel_rfl
/-- what the loop keeps: the box of the slice, which owns what was gathered. -/
def AlI (wL : World) (tb : Nat) (pre : List Nat) (W : World) : Prop :=
  (∃ v, Blk W (tb + 1) 73 [v] ∧ W.ownsRow (wL.heap.size + 2) 3 1 v pre.length (nv (pre.map Go.Dr.sib))) ∧ Blk W tb 108 [.func (.func 53) #[] #[]] ∧ Below tb wL W
theorem alI_deaf (wL : World) (tb : Nat) (hs : wL.heap.size = tb + 3) : Deaf (LoopR (tb + 2) wL.heap.size) (AlI wL tb) := by
  rintro s A C row ⟨⟨v, h1, h2⟩, h3, h4⟩ hg hr
  have hr' : ∀ r, row = some r → r = tb + 2 ∨ r = tb + 3 ∨ r = tb + 4 := fun r e => by have := hr r e; unfold LoopR at this; omega
  refine ⟨⟨v, h1.grown hg (fun e => by have := hr' _ e.symm; omega), h2.kept hg ?_⟩, h3.grown hg (fun e => by have := hr' _ e.symm; omega), h4.grown hg (by have := h4.size; omega) (fun r e => by have := hr' r e; omega)⟩
  cases hv : v.ownBlock with
  | none => exact .inl rfl
  | some g =>
    refine .inr ?_
    have := World.ownsRow.lt h2 g hv
    intro e
    have := hr' g e.symm
    omega

set_option maxRecDepth 20000 in
set_option maxHeartbeats 4000000 in
theorem along_any (dev : Int) (hd : I64 dev) (w : World) :
    Calls Tryd.prog 52 #[.int .i64 dev, .func (.func 53) #[] #[]] w (CoPost dev w) := by
  obtain ⟨tb, htb⟩ : ∃ tb, Hid (w.heap.size = tb) := ⟨_, rfl⟩
  have hlf := Lib.hid (fun W => callsIn_wide (n := 5).2 (pleaf_any dev hd W))
  by_cases hin : 0 ≤ dev ∧ dev < 512
  · rw [if_pos hin, if_pos hin] at hlf
    obtain ⟨n, hn⟩ : ∃ n : Nat, Hid (512 + dev = (n : Int) ∧ n = 512 + dev.toNat) := ⟨512 + dev.toNat, by omega, rfl⟩
    rw [hn.out.1] at hlf
    refine callsIn_wide (n := 6).1 ?_
    refine callsIn_of_wp_marks Tryd.func52 rfl trivial ?_ rfl
    simp only [Tryd.ntmps52, List.size_toArray, List.length_cons, List.length_nil, Nat.reduceAdd, Nat.reduceSub, Array.replicate_succ, Array.replicate_zero, List.push_toArray, List.append_toArray, List.nil_append, List.cons_append]
    gi_wp2_with fail
    refine ⟨trivial, (hlf.out _).mono ?_⟩
    rintro e w' ⟨rfl, rfl⟩
    gi_wp2_with fail
    refine ⟨trivial, (callsIn_wide.2 (up_any n _)).mono ?_⟩
    rintro e w' ⟨rfl, rfl⟩
    gi_wp2_with fail
    rw [htb.out]
    generalize hwL : ((w.alloc _).alloc _).alloc _ = wL
    have hs : wL.heap.size = tb + 3 := by rw [← hwL, ← htb.out]; simp
    have hbL : Below w.heap.size w wL := by rw [← hwL]; exact (((Below.refl _ w).alloc (Nat.le_refl _) _).alloc (by simp) _).alloc (by simp; omega) _
    have hBF : Blk wL tb 108 [.func (.func 53) #[] #[]] := by rw [← hwL, ← htb.out]; exact ((Blk.new w _ [.func (.func 53) #[] #[]]).alloc _).alloc _
    have hBS : Blk wL (tb + 1) 73 [.slice none 0 0] := by
      rw [← hwL, ← htb.out]
      have := (Blk.new (w.alloc (.cells #[.func (.func 53) #[] #[]] 108)) 73 [.slice none 0 0]).alloc (.cells #[.int .i64 (n : Int)] 110)
      rwa [World.size_alloc] at this
    have hBN : Blk wL (tb + 2) 110 [.int .i64 (n : Int)] := by
      rw [← hwL, ← htb.out]
      have := Blk.new ((w.alloc (.cells #[.func (.func 53) #[] #[]] 108)).alloc (.cells #[.slice none 0 0] 73)) 110 [.int .i64 (n : Int)]
      rwa [World.size_alloc, World.size_alloc] at this
    clear hwL
    have hnr : n / 2 ^ 9 = 1 := by rw [hn.out.2]; exact Go.Dr.dev_root hin
    have hn2 : n < 1024 := by have := hn.out.1; omega
    have hseq : SeqOwn (tb + 2) (tb + 1) Fence.wide 5 Tryd.prog 84 #[.pointer (some ⟨tb + 1 + 1, 0, none⟩)] encN (fun xs => xs = Go.Dr.upGo 9 n) (fun pre => pre <+: Go.Dr.upGo 9 n) (fun x => x < 1024) 9 wL :=
      fun l J Jx W hW hl0 hl1 hJ hY h0 => upIter_in l (tb + 2) 9 n wL.heap.size (tb + 1) hnr hn2 J Jx W (hBN.below hW hBN.lt) (by omega) (by omega) hJ hY h0
    refine wpIn_range_own (q := tb + 2) (z := tb + 1) (by omega) rfl (by omega) (gf := 84) (lb := #[.pointer (some ⟨tb + 1 + 1, 0, none⟩)]) rfl trivial (enters_of Tryd.func84 (by kernel_rfl) rfl)
      hseq (fun _ => rfl) (AlI wL tb) (fun _ _ _ => False) (alI_deaf wL tb hs) (fun c _ _ _ _ h _ _ => h) ⟨⟨_, hBS, World.ownsRow_nil _ _ _ _⟩, hBF, Below.refl _ _⟩
      (fun x a' _ => a' = { tmps := #[.int .i64 dev, .func (.func 53) #[] #[], undef, .pointer (some ⟨tb, 0, none⟩), .pointer (some ⟨tb + 1, 0, none⟩), .int .i64 0, .int .i64 (n : Int), .int .i64 (x : Int),
        .tuple #[.int .i64 (n : Int), .int .i64 0], .int .i64 dev, .tuple #[.int .i64 (n : Int), .int .i64 0], .int .i64 (n : Int), .int .i64 0, .int .i64 0, .bool false, undef, .int .i64 (n : Int), .func (.func 84) #[] #[.pointer (some ⟨tb + 1 + 1, 0, none⟩)], .int .i64 (x : Int), undef, undef, undef, undef, undef, undef, undef], defers := [] })
      (fun x a' A C l rc hx _ _ => hx) ?assign ?body ?done ?stop
    case assign =>
      rintro l pre x A K hI _ hK
      gi_wp2_with fail
      exact hK _ _ (World.grownBy.refl A none) rfl
    case body =>
      rintro l pre x a' A hA ⟨⟨v, hB, hown⟩, hF, hb⟩ rfl hlen hx
      obtain ⟨i0, hi, hz0, hz1, hz2⟩ := info_parts info3
      have hsi := Lib.hid (fun W => sibling_any x hx W)
      obtain ⟨y, hy⟩ : ∃ y, Hid (Go.Dr.sib x = y) := ⟨_, rfl⟩
      rw [hy.out] at hsi
      have hAd : A.drew.heap.size = A.heap.size := rfl
      obtain ⟨W1, hW1⟩ : ∃ W1, Hid (A.drew.alloc (.cells #[.int .i64 (y : Int)] 3) = W1) := ⟨_, rfl⟩
      have hown1 : W1.ownsRow (wL.heap.size + 2) 3 1 v pre.length (nv (pre.map Go.Dr.sib)) := by rw [← hW1.out]; exact World.ownsRow.kept (row := none) hown (grown_alloc (grown_drewN (World.grownBy.refl A none) 1) _) (by cases v.ownBlock with | none => exact .inl rfl | some _ => exact .inr (fun e => by cases e))
      have hB1 : Blk W1 A.heap.size 3 (nv [y]) := by rw [← hW1.out]; exact Blk.new A.drew 3 [.int .i64 (y : Int)]
      have hS1 : Blk W1 (tb + 1) 73 [v] := by rw [← hW1.out]; exact (hB.drewN 1).alloc _
      have hA2 : A.drew.heap.size = A.heap.size := rfl
      obtain ⟨v', W2, hr, hown2, hgr, _⟩ := run_append_own (P := Tryd.prog) W1 (wL.heap.size + 2) 73 73 3 i0 _ 1 8 Tryd.underlying73 hi hz0 hz1 hz2 rfl (by decide) v pre.length _ hown1 ⟨A.heap.size, 0, none⟩ 1 1 (nv [y]) rfl (fun j u hj => by rw [Addr.add_lit, Nat.zero_add]; exact hB1.at_ hj) (nv_one _) (by unfold maxLen; omega) (by omega) (by rw [← hW1.out]; simp; omega)
      obtain ⟨g, cap, rfl⟩ := ownsRow_succ hown2
      have hS2 : Blk W2 (tb + 1) 73 [v] := hS1.grown hgr (fun e => by have := (World.ownsRow.lt hown1 _ e.symm).1; omega)
      have c4 := hB.at_ (i := 0) (x := v) rfl
      have c3 := hF.at_ (i := 0) (x := .func (.func 53) #[] #[]) rfl
      have f4 := hS2.frozen 0
      have d4 := hS2.at_ (i := 0) (x := v) rfl
      have c5 : (A.alloc (.cells #[.int .i64 (y : Int)] 3)).cell? ⟨tb + 1, 0, none⟩ = some v := (hB.alloc _).at_ (i := 0) rfl
      rw [← hW1.out] at hr
      have hr : (Builtin.append_ #[73, 73] 73 #[v, .slice (some ⟨A.heap.size, 0, none⟩) 1 1]).run Tryd.prog (A.alloc (.cells #[.int .i64 (y : Int)] 3)).drew = .ok (.slice (some ⟨g, 0, none⟩) (pre.length + 1) cap) W2 := hr
      have hg1 : A.grownBy W1 none := by rw [← hW1.out]; exact grown_alloc (grown_drewN (World.grownBy.refl A none) 1) _
      have hfin : Hid (roundLeft (tb + 1) wL.heap.size (AlI wL tb) (fun _ _ _ => False) (pre ++ [x]) A .normal { tmps := #[], defers := [] } (W2.setCell ⟨tb + 1, 0, none⟩ (.slice (some ⟨g, 0, none⟩) (pre.length + 1) cap))) := by
        have hg2 : A.grownBy W2 v.ownBlock := ⟨hgr.os.trans hg1.os, hgr.tape.trans hg1.tape, hgr.output.trans hg1.output, Nat.le_trans hg1.size hgr.size, fun i hi2 hne => (hgr.block i (Nat.lt_of_lt_of_le hi2 hg1.size) hne).trans (hg1.block i hi2 (by simp))⟩
        have hvb : ∀ k, v.ownBlock = some k → wL.heap.size + 2 ≤ k := fun k e => (World.ownsRow.lt hown k e).1
        have hgb : wL.heap.size + 2 ≤ g := (World.ownsRow.lt hown2 g (by rfl)).1
        have hsz : ∀ u, (W2.setCell ⟨tb + 1, 0, none⟩ u).heap.size = W2.heap.size := fun u => by simp [World.setCell]
        refine ⟨⟨by rw [hsz]; exact hg2.size, fun k o hk hko hoc => ?_⟩, ⟨by rw [hsz]; exact hg2.size, fun i hi2 hne => ?_⟩, ⟨_, hS2.set 0 _, ?_⟩, ?_, ?_⟩
        · rw [Below.heap_setCell _ _ _ _ (by show k ≠ tb + 1; omega)]
          by_cases e : some k = v.ownBlock
          · obtain ⟨cs, fz, hcs⟩ : ∃ cs fz, A.heap[k]? = some (.cells cs 3 fz) := by
              rcases hown.2 with ⟨rfl, _⟩ | ⟨gg, cp, cur, rfl, _, hgg, _⟩
              · cases e
              · cases e; exact ⟨_, _, hgg⟩
            rw [hcs] at hko
            cases hko
            cases hoc
          · rw [hg2.block k (Array.getElem?_eq_some_iff.1 hko).1 e]; exact hko
        · rw [Below.heap_setCell _ _ _ _ (by show i ≠ tb + 1; exact hne), hg2.block i (by omega) (fun e => by have := hvb i e.symm; omega)]
        · rw [List.map_append, nv_append, List.length_append]
          have := hown2.kept (row := some (tb + 1)) (Lib.grownBy_setCell W2 (tb + 1) 0 (.slice (some ⟨g, 0, none⟩) (pre.length + 1) cap)) (.inr (by intro e; have e2 : g = tb + 1 := Option.some.inj e; omega))
          rw [← hy.out] at this
          exact this
        · exact ((hF.grown hg2 (fun e => by have := hvb _ e.symm; omega)).far (p := ⟨tb + 1, 0, none⟩) (by simp) _)
        · exact (hb.grown hg2 (by have := hb.size; omega) (fun k e => by have := hvb k e; omega)).setCell (p := ⟨tb + 1, 0, none⟩) (by show tb ≤ tb + 1; omega) _
      clear hown hB hF hb hown1 hB1 hS1 hS2 hown2 hgr hg1 hseq
      gi_wp2_with fail
      refine share (G := ?Gs01234) ?hs01234 ?ks01234
      case' hs01234 => intro Ks01234
      case' hs01234 =>
        refine share (G := ?Gs0123) ?hs0123 ?ks0123
      case' hs0123 => intro Ks0123
      case' hs0123 =>
        refine share (G := ?Gs012) ?hs012 ?ks012
      case' hs012 => intro Ks012
      case' hs012 =>
        refine share (G := ?Gs01) ?hs01 ?ks01
      case' hs01 => intro Ks01
      case' hs01 =>
        refine share (G := ?Gs02) ?hs02 ?ks02
      case' hs02 => intro Ks02
      case' hs02 =>
        refine share (G := ?Gs12) ?hs12 ?ks12
      case' hs12 => intro Ks12
      case hs12 =>
        refine wpIn_region_any (by kernel_rfl) ?_
        change wpAnyIn _ _ _ _ _ _ _ _ _ (World.drew _)
        refine wpAnyIn_ready (rs := [0, 1, 2]) (by kernel_rfl) (by simp) ?_
        refine AllReadyIn.cons rfl (fun K hK => ?_) (AllReadyIn.cons rfl (fun K hK => ?_) (AllReadyIn.cons rfl (fun K hK => ?_) AllReadyIn.nil))
        case refine_1 =>
          rw [if_pos (by rfl)]
          go_simp
          refine hK _ _ ?_
          clear hK K
          try simp only [Act.put, List.setIfInBounds_toArray, List.set_cons_zero, List.set_cons_succ]
          refine wpAnyIn_ready (rs := [1, 2]) (by kernel_rfl) (by simp) ?_
          refine AllReadyIn.cons rfl (fun K hK => ?_) (AllReadyIn.cons rfl (fun K hK => ?_) AllReadyIn.nil)
          case refine_1 =>
            rw [if_pos (by rfl)]
            go_simp
            refine hK _ _ ?_
            clear hK K
            try simp only [Act.put, List.setIfInBounds_toArray, List.set_cons_zero, List.set_cons_succ]
            exact Ks01
          case refine_2 =>
            rw [if_pos (by rfl)]
            go_simp
            refine hK _ _ ?_
            clear hK K
            try simp only [Act.put, List.setIfInBounds_toArray, List.set_cons_zero, List.set_cons_succ]
            exact Ks02
        case refine_2 =>
          rw [if_pos (by rfl)]
          go_simp
          refine hK _ _ ?_
          clear hK K
          try simp only [Act.put, List.setIfInBounds_toArray, List.set_cons_zero, List.set_cons_succ]
          refine wpAnyIn_ready (rs := [0, 2]) (by kernel_rfl) (by simp) ?_
          refine AllReadyIn.cons rfl (fun K hK => ?_) (AllReadyIn.cons rfl (fun K hK => ?_) AllReadyIn.nil)
          case refine_1 =>
            rw [if_pos (by rfl)]
            go_simp
            refine hK _ _ ?_
            clear hK K
            try simp only [Act.put, List.setIfInBounds_toArray, List.set_cons_zero, List.set_cons_succ]
            exact Ks01
          case refine_2 =>
            rw [if_pos (by rfl)]
            go_simp
            refine hK _ _ ?_
            clear hK K
            try simp only [Act.put, List.setIfInBounds_toArray, List.set_cons_zero, List.set_cons_succ]
            exact Ks12
        case refine_3 =>
          rw [if_pos (by rfl)]
          go_simp
          refine hK _ _ ?_
          clear hK K
          try simp only [Act.put, List.setIfInBounds_toArray, List.set_cons_zero, List.set_cons_succ]
          refine wpAnyIn_ready (rs := [0, 1]) (by kernel_rfl) (by simp) ?_
          refine AllReadyIn.cons rfl (fun K hK => ?_) (AllReadyIn.cons rfl (fun K hK => ?_) AllReadyIn.nil)
          case refine_1 =>
            rw [if_pos (by rfl)]
            go_simp
            refine hK _ _ ?_
            clear hK K
            try simp only [Act.put, List.setIfInBounds_toArray, List.set_cons_zero, List.set_cons_succ]
            exact Ks02
          case refine_2 =>
            rw [if_pos (by rfl)]
            go_simp
            refine hK _ _ ?_
            clear hK K
            try simp only [Act.put, List.setIfInBounds_toArray, List.set_cons_zero, List.set_cons_succ]
            exact Ks12
      case ks12 =>
        refine wpAnyIn_ready (rs := [0, 3]) (by kernel_rfl) (by simp) ?_
        refine AllReadyIn.cons rfl (fun K hK => ?_) (AllReadyIn.cons rfl (fun K hK => ?_) AllReadyIn.nil)
        case refine_1 =>
          rw [if_pos (by rfl)]
          go_simp
          refine hK _ _ ?_
          clear hK K
          try simp only [Act.put, List.setIfInBounds_toArray, List.set_cons_zero, List.set_cons_succ]
          exact Ks012
        case refine_2 =>
          rw [if_pos (by rfl)]
          go_simp
          refine ⟨trivial, (CallsIn.inRound l (callsIn_wide.2 (hsi.out _))).mono ?_⟩
          rintro e W ⟨rfl, rfl⟩
          refine hK _ _ ?_
          clear hK K
          try simp only [Act.put, List.setIfInBounds_toArray, List.set_cons_zero, List.set_cons_succ]
          refine wpAnyIn_ready (rs := [0, 4]) (by kernel_rfl) (by simp) ?_
          refine AllReadyIn.cons rfl (fun K hK => ?_) (AllReadyIn.cons rfl (fun K hK => ?_) AllReadyIn.nil)
          case refine_1 =>
            rw [if_pos (by rfl)]
            go_simp
            refine hK _ _ ?_
            clear hK K
            try simp only [Act.put, List.setIfInBounds_toArray, List.set_cons_zero, List.set_cons_succ]
            exact Ks0123
          case refine_2 =>
            rw [if_pos (by rfl)]
            go_simp
            refine hK _ _ ?_
            clear hK K
            try simp only [Act.put, List.setIfInBounds_toArray, List.set_cons_zero, List.set_cons_succ]
            refine wpAnyIn_ready (rs := [0]) (by kernel_rfl) (by simp) ?_
            refine AllReadyIn.cons rfl (fun K hK => ?_) AllReadyIn.nil
            rw [if_pos (by rfl)]
            go_simp
            refine hK _ _ ?_
            clear hK K
            try simp only [Act.put, List.setIfInBounds_toArray, List.set_cons_zero, List.set_cons_succ]
            exact Ks01234
      case ks02 =>
        refine wpAnyIn_ready (rs := [1]) (by kernel_rfl) (by simp) ?_
        refine AllReadyIn.cons rfl (fun K hK => ?_) AllReadyIn.nil
        rw [if_pos (by rfl)]
        go_simp
        refine hK _ _ ?_
        clear hK K
        try simp only [Act.put, List.setIfInBounds_toArray, List.set_cons_zero, List.set_cons_succ]
        exact Ks012
      case ks01 =>
        refine wpAnyIn_ready (rs := [2]) (by kernel_rfl) (by simp) ?_
        refine AllReadyIn.cons rfl (fun K hK => ?_) AllReadyIn.nil
        rw [if_pos (by rfl)]
        go_simp
        refine hK _ _ ?_
        clear hK K
        try simp only [Act.put, List.setIfInBounds_toArray, List.set_cons_zero, List.set_cons_succ]
        exact Ks012
      case ks012 =>
        refine wpAnyIn_ready (rs := [3]) (by kernel_rfl) (by simp) ?_
        refine AllReadyIn.cons rfl (fun K hK => ?_) AllReadyIn.nil
        rw [if_pos (by rfl)]
        go_simp
        refine ⟨trivial, (CallsIn.inRound l (callsIn_wide.2 (hsi.out _))).mono ?_⟩
        rintro e W ⟨rfl, rfl⟩
        refine hK _ _ ?_
        clear hK K
        try simp only [Act.put, List.setIfInBounds_toArray, List.set_cons_zero, List.set_cons_succ]
        exact Ks0123
      case ks0123 =>
        refine wpAnyIn_ready (rs := [4]) (by kernel_rfl) (by simp) ?_
        refine AllReadyIn.cons rfl (fun K hK => ?_) AllReadyIn.nil
        rw [if_pos (by rfl)]
        go_simp
        refine hK _ _ ?_
        clear hK K
        try simp only [Act.put, List.setIfInBounds_toArray, List.set_cons_zero, List.set_cons_succ]
        exact Ks01234
      case ks01234 =>
        refine wpAnyIn_ready (rs := [5]) (by kernel_rfl) (by simp) ?_
        refine AllReadyIn.cons rfl (fun K hK => ?_) AllReadyIn.nil
        rw [if_pos (by rfl)]
        refine wpIn_append_run (by rfl) _ _ (by rfl) rfl rfl hr ?_
        refine hK _ _ ?_
        clear hK K
        try simp only [Act.put, List.setIfInBounds_toArray]
        refine wpAnyIn_ready (rs := [6]) (by kernel_rfl) (by simp) ?_
        refine AllReadyIn.cons rfl (fun K hK => ?_) AllReadyIn.nil
        rw [if_pos (by rfl)]
        go_simp
        refine hK _ _ ?_
        clear hK K
        try simp only [Act.put, List.setIfInBounds_toArray, List.set_cons_zero, List.set_cons_succ]
        refine wpAnyIn_done (by kernel_rfl) ?_ _
        gi_wp2_with fail
        exact hfin.out
    case done =>
      rintro D xs W hD rfl ⟨⟨v, hB, hown⟩, hF, hb⟩ hK
      have c4 := hB.at_ (i := 0) (x := v) rfl
      have f4 := hB.frozen 0
      rw [Go.Dr.upGo_length] at hown
      obtain ⟨g, cap, rfl⟩ := ownsRow_succ hown
      have hS := hB.set 0 (.slice (some ⟨g, 0, none⟩) 9 cap)
      have c5 := hS.at_ (i := 0) (x := .slice (some ⟨g, 0, none⟩) 9 cap) rfl
      have hgb : wL.heap.size + 2 ≤ g := (World.ownsRow.lt hown g (by rfl)).1
      have hown2 := hown.kept (row := some (tb + 1)) (Lib.grownBy_setCell W (tb + 1) 0 (.slice (some ⟨g, 0, none⟩) 9 cap)) (.inr (by intro e; have e2 : g = tb + 1 := Option.some.inj e; omega))
      have hb2 : Below tb wL (W.setCell ⟨tb + 1, 0, none⟩ (.slice (some ⟨g, 0, none⟩) 9 cap)) := hb.setCell (p := ⟨tb + 1, 0, none⟩) (by show tb ≤ tb + 1; omega) _
      generalize hV : W.setCell ⟨tb + 1, 0, none⟩ (.slice (some ⟨g, 0, none⟩) 9 cap) = V at *
      have hK' : V.heap[D]? = some (.deferred (some [])) := by rw [← hV, Below.heap_setCell _ _ _ _ (by show D ≠ tb + 1; omega)]; exact hK
      have hgp := grownBy_putObj' V D (.deferred none)
      have y4 := (hS.grown hgp (fun e => by cases e; omega)).at_ (i := 0) (x := .slice (some ⟨g, 0, none⟩) 9 cap) rfl
      have hgD : g ≠ D := fun e => by
        subst e
        obtain ⟨g2, cap2, rest, hv, _, _, hh, _⟩ := Sl.owns_row hown2 (by omega)
        have e2 : g = g2 := by simp at hv; exact hv.1
        subst e2
        rw [hK'] at hh
        cases hh
      have hown3 := hown2.kept hgp (.inr (by intro e; have e2 : g = D := Option.some.inj e; exact hgD e2))
      have hbf : Below w.heap.size w (V.putObj D (.deferred none)) := (hbL.trans (hb2.mono (by rw [htb.out]; exact Nat.le_refl _))).grown hgp (hbL.trans (hb2.mono (by rw [htb.out]; exact Nat.le_refl _))).size (fun k e => by cases e; have := htb.out; omega)
      obtain ⟨a2, c2, hv2, hR, _⟩ := Sl.of_owns hown3
      cases hv2
      have hco : Go.Dr.coD dev = (Go.Dr.upGo 9 n).map Go.Dr.sib := by unfold Go.Dr.coD; rw [← hn.out.2, Go.Dr.coGo_up]
      have hpost : CoPost dev w (.returned (.tuple #[.slice (some ⟨g, 0, none⟩) 9 cap, .int .i64 0])) (V.putObj D (.deferred none)) := .inl ⟨hin.1, hin.2, _, _, rfl, by rw [hco]; exact hR, hbf⟩
      clear hown hown2 hown3 hR hB hF hb hbf hseq hS
      gi_wp2_with fail
      refine ⟨by simp, .inl ⟨_, _, rfl, run_takeDeferred hK', .tuple #[.slice (some ⟨g, 0, none⟩) 9 cap, .int .i64 0], ?_, hpost⟩⟩
      simp [results, Tryd.f52, go_sem, y4]
    case stop =>
      rintro D c pre W hD hp hf
      exact hf.elim
  · rw [if_neg hin, if_neg hin] at hlf
    have hlf2 := Lib.hid (fun W => callsIn_wide.1 (hlf.out W))
    go_enter Tryd.func52, Tryd.ntmps52
    go_wp2_with fail
    refine (hlf2.out _).mono ?_
    rintro e w' ⟨rfl, rfl⟩
    rw [htb.out]
    generalize hwL : (w.alloc _).alloc _ = wL
    have hbL : Below w.heap.size w wL := by rw [← hwL]; exact ((Below.refl _ w).alloc (Nat.le_refl _) _).alloc (by simp) _
    have hBS : Blk wL (tb + 1) 73 [.slice none 0 0] := by
      rw [← hwL, ← htb.out]
      have := Blk.new (w.alloc (.cells #[.func (.func 53) #[] #[]] 108)) 73 [.slice none 0 0]
      rwa [World.size_alloc] at this
    have c4 := hBS.at_ (i := 0) (x := .slice none 0 0) rfl
    have f4 := hBS.frozen 0
    have c5 := (hBS.set 0 (.slice none 0 0)).at_ (i := 0) (x := .slice none 0 0) rfl
    have hpost : Hid (CoPost dev w (.returned (.tuple #[.slice none 0 0, .int .i64 200])) (wL.setCell ⟨tb + 1, 0, none⟩ (.slice none 0 0))) := .inr ⟨hin, rfl, hbL.setCell (p := ⟨tb + 1, 0, none⟩) (by have := htb.out; show _ ≤ tb + 1; omega) _⟩
    clear hwL hBS hbL
    go_wp2_with fail
    refine bodyPost_ret (v := .tuple #[.slice none 0 0, .int .i64 200]) ?_ rfl hpost.out
    simp [results, Tryd.f52, go_sem, c5]

set_option maxHeartbeats 400000 in
theorem copath_any (dev : Int) (hd : I64 dev) (w : World) : Calls Tryd.prog 29 #[.int .i64 dev] w (CoPost dev w) := by
  have hc := Lib.hid (along_any dev hd w)
  go_enter Tryd.func29, Tryd.ntmps29
  go_wp2_with fail
  refine hc.out.mono ?_
  rintro e w1 (⟨h1, h2, a, c, rfl, hR, hb⟩ | ⟨h1, rfl, hb⟩)
  · have hp : Hid (CoPost dev w (.returned (.tuple #[.slice a 9 c, .int .i64 0])) w1) := .inl ⟨h1, h2, a, c, rfl, hR, hb⟩
    clear hR hc
    go_wp2_with fail
    go_ret2
    exact hp.out
  · have hp : Hid (CoPost dev w (.returned (.tuple #[.slice none 0 0, .int .i64 200])) w1) := .inr ⟨h1, rfl, hb⟩
    clear hc
    go_wp2_with fail
    go_ret2
    exact hp.out
end Go.Proofs.YthnfjkgiaanmhaaDoor
