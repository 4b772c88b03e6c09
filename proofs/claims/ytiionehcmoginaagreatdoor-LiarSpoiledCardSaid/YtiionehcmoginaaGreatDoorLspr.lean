/- LiarSpoiled: the walk -/
import Derived.Test.YtiionehcmoginaaGreatDoorLiC
import Derived.Test.YtiionehcmoginaaGreatDoorCards
import Derived.Test.YtiionehcmoginaaGreatDoorTie
import Derived.SevenTiedAt
import Derived.Deep.DeepHandedRow
import Derived.Deep.DeepWitnessRowRef
namespace Go.Proofs.YtiionehcmoginaaGreatDoor
open Go.RowKit Go.Mem Go.Shelf
open Go.Sto (Ent St Rul forkE BdL)
open Go.Vw (Hd Sg eqH)

/-- what the drawn region keeps. -/
structure SpW (w w4 : World) (sb : Nat) (s : St) (a : Option Addr) (n c : Nat) (ra : Option Addr) (rn rc : Nat) (wz : World) : Prop where
  b1 : Blk wz sb 27 (liC s a n c ra rn rc)
  bel : Below w.heap.size w wz
  b4 : Below w4.heap.size w4 wz
section
variable {w w4 wz wq : World} {sb : Nat} {s : St} {a : Option Addr} {n c : Nat} {ra : Option Addr} {rn rc : Nat}
theorem SpW.below (h : SpW w w4 sb s a n c ra rn rc wz) (hb : Below wz.heap.size wz wq) : SpW w w4 sb s a n c ra rn rc wq := ⟨h.b1.below hb h.b1.lt, h.bel.trans (hb.mono h.bel.size), h.b4.trans (hb.mono h.b4.size)⟩
theorem SpW.grown (h : SpW w w4 sb s a n c ra rn rc wz) {r : Option Nat} (hg : wz.grownBy wq r) (h1 : ∀ k, r = some k → w4.heap.size ≤ k) (h2 : w.heap.size ≤ w4.heap.size) (h3 : sb < w4.heap.size) : SpW w w4 sb s a n c ra rn rc wq :=
  ⟨h.b1.grown hg (fun e => by have := h1 _ e.symm; omega), h.bel.grown hg h.bel.size (fun k e => Nat.le_trans h2 (h1 k e)), h.b4.grown hg h.b4.size h1⟩
end
/-- the liar whose rules are spoiled: its box g, and its rules, in a row of their own. -/
structure SpR (w w4 : World) (g : Nat) (s : St) (a : Option Addr) (n c : Nat) (va : Option Addr) (vc : Nat) (l : List Rul) (wz : World) : Prop where
  bx : Blk wz g 27 (liC s a n c va l.length vc)
  own : OwnU w4 wz (.slice va l.length vc) l
  ge : w4.heap.size ≤ g
  ne : (Value.slice va l.length vc).ownBlock ≠ some g
  bel : Below w.heap.size w wz
  b4 : w4.heap.size ≤ wz.heap.size
theorem SpR.below {w w4 wz wq : World} {g : Nat} {s : St} {a : Option Addr} {n c : Nat} {va : Option Addr} {vc : Nat} {l : List Rul} (h : SpR w w4 g s a n c va vc l wz) (hb : Below wz.heap.size wz wq) : SpR w w4 g s a n c va vc l wq :=
  ⟨h.bx.below hb h.bx.lt, h.own.below hb, h.ge, h.ne, h.bel.trans (hb.mono h.bel.size), Nat.le_trans h.b4 hb.size⟩
theorem SpR.rus {w w4 wz : World} {g : Nat} {s : St} {a : Option Addr} {n c : Nat} {va : Option Addr} {vc : Nat} {l : List Rul} (h : SpR w w4 g s a n c va vc l wz) : RuS wz va l.length vc l := by
  obtain ⟨a', c', e, hR⟩ := h.own.rus
  injection e with e1 _ e2
  rw [e1, e2]; exact hR
theorem append_rusN {w0 W : World} {v : Value} {l : List Rul} (ho : OwnU w0 W v l) (hb0 : w0.heap.size ≤ W.heap.size) {a : Option Addr} {n c : Nat} {l' : List Rul} (H : RuS W a n c l') (hn : l.length + n ≤ 100000) :
    ∃ v' W', (∀ ty, (Builtin.append_ #[25, 25] ty #[v, .slice a n c]).run Tryz.prog W = .ok v' W') ∧ OwnU w0 W' v' (l ++ l') ∧ W.grownBy W' v.ownBlock ∧ Nxt v v' W := by
  obtain ⟨i0, hi, ⟨z, hz0, hzs⟩, hz1, hz2⟩ := info_partsR
  obtain ⟨rows', hr', hR'⟩ := H.rows
  have hln := H.len
  have hrw : rows' = l'.map ruC := by
    refine List.ext_getElem? fun i => ?_
    rw [List.getElem?_map]
    cases hx : l'[i]? with
    | none =>
      have : l'.length ≤ i := List.getElem?_eq_none_iff.1 hx
      rw [List.getElem?_eq_none (by rw [hR'.len]; exact this)]; rfl
    | some x =>
      have hil := (List.getElem?_eq_some_iff.1 hx).1
      obtain ⟨r, hr⟩ : ∃ r, rows'[i]? = some r := ⟨_, List.getElem?_eq_getElem (by rw [hR'.len]; exact hil)⟩
      rw [hr]
      exact congrArg some (hR'.each i x r hx hr)
  subst hrw
  cases a with
  | none =>
    obtain ⟨rfl, rfl⟩ := hr'.nil rfl
    have hl : l' = [] := List.eq_nil_of_length_eq_zero hln
    subst hl
    refine ⟨v, W, fun ty => ?_, by rw [List.append_nil]; exact ho, World.grownBy.refl W _, .inl rfl⟩
    rcases ho.2 with ⟨rfl, h0⟩ | ⟨g, cap, cur, rfl, _, _, hnc, _, _, _⟩
    · simp [Builtin.append_, run_underlying Tryz.underlying25, sizeOf, typeInfo, hi, Builtin.lenOf, Builtin.firstCells]
    · simp [Builtin.append_, run_underlying Tryz.underlying25, sizeOf, typeInfo, hi, Builtin.lenOf, Builtin.firstCells, storeCells, hnc]
  | some ad =>
    have hnews : ∀ j u, (l'.map ruC).flatten[j]? = some u → W.cell? (ad.add j) = some u := by
      intro j u hj
      have hjl := (List.getElem?_eq_some_iff.1 hj).1
      rw [hr'.len] at hjl
      obtain ⟨b, off, e, hb, hc⟩ := hr'.cells (by omega)
      cases e
      rw [Addr.add_lit]
      exact hc j u hj
    obtain ⟨v', w', hr, h2, h3, _, h5⟩ := run_append_own_at (P := Tryz.prog) (w := W) w0.heap.size 25 0 72 i0 z 3 24 Tryz.underlying25 hi hz0 hz1 hz2 hzs (by omega) v l.length (l.map ruC).flatten ho ad n c (l'.map ruC).flatten hr'.len hnews (ruls_one l') (by unfold maxLen; omega) (by omega) hb0
    refine ⟨v', w', fun ty => ?_, ?_, h3, h5.imp id fun h => .inr ⟨_, h, Nat.le_refl _⟩⟩
    · rw [← hr]; rfl
    · unfold OwnU
      rw [List.map_append, List.flatten_append, List.length_append, hln]; exact h2
def zrL : List Value := [.int .i64 0, .int .i64 0, .slice none 0 0, .slice none 0 0]
theorem li_oneL (s : St) (a : Option Addr) (n c : Nat) (va : Option Addr) (m d : Nat) : ∀ u ∈ liC s a n c va m d, u.oneCell' = true := li_one _ _ _ _ _ _ _ _

theorem SpR.app {w w4 wx : World} {g : Nat} {s : St} {a : Option Addr} {n c : Nat} {va : Option Addr} {vc : Nat} {l : List Rul} (h : SpR w w4 g s a n c va vc l wx) (r : Rul) (hn : l.length + 1 ≤ 100000) (h2 : w.heap.size ≤ w4.heap.size) :
    ∃ va' vc' W', (∀ ty, (Builtin.append_ #[25, 25] ty #[.slice va l.length vc, .slice (some ⟨wx.heap.size, 0, none⟩) 1 1]).run Tryz.prog (wx.alloc (.cells (ruC r).toArray 72)) = .ok (.slice va' (l ++ [r]).length vc') W') ∧
      Blk W' g 27 (liC s a n c va l.length vc) ∧ SpR w w4 g s a n c va' vc' (l ++ [r]) (W'.setCell ⟨g, 3, none⟩ (.slice va' (l ++ [r]).length vc')) := by
  obtain ⟨v', W', hr, hO, hg, hN⟩ := append_ru r h.own h.b4 hn
  obtain ⟨va', vc', rfl, _⟩ := hO.rus
  have hgl : g < wx.heap.size := h.bx.lt
  have hne : (Value.slice va' (l ++ [r]).length vc').ownBlock ≠ some g := by
    rcases hN with e | e | ⟨x, e, hx⟩
    · rw [e]; exact h.ne
    · rw [e]; exact fun e => by cases e
    · rw [e]; intro e2; injection e2 with e2; omega
  have hB := h.bx.grown hg (fun e => h.ne e.symm)
  have hgs : W'.grownBy (W'.setCell ⟨g, 3, none⟩ (.slice va' (l ++ [r]).length vc')) (some g) := grown_set (World.grownBy.refl W' _) (.inl rfl) _
  have hb : Below w.heap.size w W' := h.bel.grown hg h.bel.size (fun k e => Nat.le_trans h2 (World.ownsRow.lt h.own k e).1)
  exact ⟨va', vc', W', hr, hB, hB.set 3 _, World.ownsRow.kept hO hgs (.inr hne), h.ge, hne, hb.setCell (p := ⟨g, 3, none⟩) (Nat.le_trans h2 h.ge) _, Nat.le_trans (Nat.le_trans h.b4 hg.size) hgs.size⟩
/-- what the rules that are spoiled give. -/
def SpB (s : St) (l : List Rul) : Prop := Sto.chkL s l = if 64 < l.length then 2 else 310
/-- how many rules lie in the box. -/
def lenAt (g : Nat) (wr : World) : Nat := match wr.cell? ⟨g, 3, none⟩ with | some (.slice _ n _) => n | _ => 0

set_option maxRecDepth 100000 in
set_option maxHeartbeats 20000000 in
theorem lspoiled_walk (s : St) (a : Option Addr) (n c : Nat) (ra : Option Addr) (rn rc : Nat) (rs : List Rul) (dev : Int) (_i1 : I64 dev) (f : Int) (hf : I64 f) (y : Nat) (hy : y < 256) (w : World) (HT : Tabs w) (S0 : SVr w a n c s) (R0 : RuS w ra rn rc rs) :
    Calls Tryz.prog 8 #[.agg (liC s a n c ra rn rc).toArray, .int .i64 dev, .int .i64 f, .int .u8 (y : Int)] w (RetBo true w) := by
  have hrl := R0.len
  have hrm : rn ≤ 9223372036854775807 := Nat.le_trans (RS.le R0) (RS.max R0)
  have HT' := Lib.hid HT; have S0' := Lib.hid S0; have R0' := Lib.hid R0
  clear HT S0 R0
  obtain ⟨sb, hsb⟩ : ∃ sb, Hid (w.heap.size = sb) := ⟨_, rfl⟩
  obtain ⟨W1, hW1⟩ : ∃ W1, Hid (w.alloc (.cells #[.int .i64 s.id, .int .i64 s.priv, .slice a n c, .slice ra rn rc] 27) = W1) := ⟨_, rfl⟩
  have hB1 : Hid (Blk W1 sb 27 (liC s a n c ra rn rc)) := by rw [← hW1.out, ← hsb.out]; exact Blk.new w _ (liC s a n c ra rn rc)
  have hbw : Hid (Below w.heap.size w W1) := by rw [← hW1.out]; exact (Below.refl _ w).alloc (Nat.le_refl _) _
  obtain ⟨X, hX⟩ : ∃ X, Hid (X = RetBo true w) := ⟨_, rfl⟩
  have hfin : Hid (∀ W, Below w.heap.size w W → X (.returned (.bool true)) W) := fun W hb => by rw [hX.out]; exact ⟨rfl, hb⟩
  rw [← hX.out]
  clear hX
  obtain ⟨fq, hfq⟩ : ∃ q, Hid (fewL s rn = q) := ⟨_, rfl⟩
  have hfw := Lib.hid (fun W (hW : Below w.heap.size w W) => few31_any a n c s ra rn rc W (S0'.out.below hW) hrm)
  rw [hfq.out] at hfw
  unfold liC at *
  go_enter Tryz.func8, Tryz.ntmps8
  go_upto_region 1 with fail
  rw [hsb.out]
  generalize hWq : w.alloc _ = Wq
  obtain rfl : W1 = Wq := by rw [← hWq]; exact hW1.out.symm
  clear hWq hW1
  go_wp2_with fail
  refine (sane31_any _ (HT'.out.below hbw.out)).mono ?_
  rintro e w2 ⟨rfl, hst⟩
  replace hB1 := Lib.hid (hB1.out.below hst hB1.out.lt)
  replace hbw := Lib.hid (hbw.out.trans (hst.mono hbw.out.size))
  clear hst
  have l0 := hB1.out.at_ (i := 0) rfl
  have l1 := hB1.out.at_ (i := 1) rfl
  have l2 := hB1.out.at_ (i := 2) rfl
  have l3 := hB1.out.at_ (i := 3) rfl
  go_wp2_with fail
  refine (hfw.out _ hbw.out).mono ?_
  rintro e w3 ⟨rfl, hst⟩
  replace hB1 := Lib.hid (hB1.out.below hst hB1.out.lt)
  replace hbw := Lib.hid (hbw.out.trans (hst.mono hbw.out.size))
  clear hst l0 l1 l2 l3 hfw
  cases fq with
  | false =>
    have hf := Lib.hid (hfin.out _ hbw.out)
    clear hB1 hbw hfq
    go_wp2_with fail
    exact hf.out
  | true =>
    have hfew : few30s s = true ∧ rn ≤ 70 := by
      have := hfq.out
      unfold fewL at this
      simpa using this
    have hsv : Hid (∀ W, Below w.heap.size w W → SV (fun _ => True) W a n c s) := fun W h => (S0'.out.below h).sv hfew.1
    have hrs : Hid (∀ W, Below w.heap.size w W → RuS W ra rn rc rs) := fun W h => R0'.out.below h
    have hbd : Hid (∀ f, BdL 0 (Sto.ents s f)) := fun f => few_bd hfew.1 f
    have hrn : rn ≤ 70 := hfew.2
    clear hfq hfew S0' R0'
    subst hrl
    have l0 := hB1.out.at_ (i := 0) rfl
    have l1 := hB1.out.at_ (i := 1) rfl
    have l2 := hB1.out.at_ (i := 2) rfl
    have l3 := hB1.out.at_ (i := 3) rfl
    have hck := Lib.hid (liCheck_any a n c s ra rs.length rc rs w3 (HT'.out.below hbw.out) (hsv.out _ hbw.out) (hrs.out _ hbw.out))
    obtain ⟨q0, hq0⟩ : ∃ q, Hid (Sto.chkL s rs = q) := ⟨_, rfl⟩
    rw [hq0.out] at hck
    unfold liC at hck
    go_wp2_with fail
    refine hck.out.mono ?_
    rintro e w4 ⟨rfl, hst⟩
    replace hB1 := Lib.hid (hB1.out.below hst hB1.out.lt)
    replace hbw := Lib.hid (hbw.out.trans (hst.mono hbw.out.size))
    clear hst l0 l1 l2 l3 hck
    by_cases hqz : q0 = 0
    case neg =>
      have hqn : (q0 != 0) = true := by simpa using hqz
      have hf0 := Lib.hid (hfin.out _ hbw.out)
      clear hqz hq0
      go_wp2_with fail
      exact hf0.out
    case pos =>
      subst hqz
      have hck0 := hq0.out
      clear hq0
      go_upto_region 6 with fail
      have hw4 : w.heap.size ≤ w4.heap.size := hbw.out.size
      have hsl : sb < w4.heap.size := hB1.out.lt
      have hS0 : SpW w w4 sb s a n c ra rs.length rc w4.drew := ⟨hB1.out.below (Below.refl _ w4).drew hB1.out.lt, hbw.out.drew, (Below.refl _ w4).drew⟩
      go_cut [10] (fun s10 wx => ∃ g : Nat, s10 = .pointer (some ⟨g, 0, none⟩) ∧ ∃ va vc, Hid (SpR w w4 g s a n c va vc rs wx))
      case first =>
        refine wp_region_held_drew (S := fun wz => SpW w w4 sb s a n c ra rs.length rc wz) (by kernel_rfl) (hS0) (fun hHeld => ?_)
        refine wpAnyH_take (i := 0) (oi := { dst := some 28, op := Op.fieldAddr 27 (Operand.tmp 4) 0, type := 0, pos := "law.go:179", after := #[], guard := none }) (v := ?_) rfl (by kernel_rfl) (by kernel_rfl) (by kernel_rfl) (fun _ _ _ h => h) (Or.inl ⟨by rfl, ?_⟩) hHeld ?_
        rotate_left
        · intro wz hSw
          go_simp
          all_goals (with_reducible rfl)
        try simp only [Act.put, List.setIfInBounds_toArray, List.set_cons_zero, List.set_cons_succ]
        refine wpAnyH_take (i := 1) (oi := { dst := some 29, op := Op.load 24 (Operand.tmp 28), type := 24, pos := "law.go:179", after := #[{ on := 0, ground := Ground.data }], guard := none }) (v := ?_) rfl (by kernel_rfl) (by kernel_rfl) (by kernel_rfl) (fun _ _ _ h => h) (Or.inl ⟨by rfl, ?_⟩) hHeld ?_
        rotate_left
        · intro wz hSw
          have q0 := hSw.b1.at_ (i := 0) rfl
          have q1 := hSw.b1.at_ (i := 1) rfl
          have q2 := hSw.b1.at_ (i := 2) rfl
          go_simp
          all_goals (with_reducible rfl)
        try simp only [Act.put, List.setIfInBounds_toArray, List.set_cons_zero, List.set_cons_succ]
        refine wpAnyH_take (i := 3) (oi := { dst := some 31, op := Op.fieldAddr 27 (Operand.tmp 4) 1, type := 0, pos := "law.go:179", after := #[], guard := none }) (v := ?_) rfl (by kernel_rfl) (by kernel_rfl) (by kernel_rfl) (fun _ _ _ h => h) (Or.inl ⟨by rfl, ?_⟩) hHeld ?_
        rotate_left
        · intro wz hSw
          go_simp
          all_goals (with_reducible rfl)
        try simp only [Act.put, List.setIfInBounds_toArray, List.set_cons_zero, List.set_cons_succ]
        refine wpAnyH_take (i := 4) (oi := { dst := some 32, op := Op.load 25 (Operand.tmp 31), type := 25, pos := "law.go:179", after := #[{ on := 3, ground := Ground.data }], guard := none }) (v := ?_) rfl (by kernel_rfl) (by kernel_rfl) (by kernel_rfl) (fun _ _ _ h => h) (Or.inl ⟨by rfl, ?_⟩) hHeld ?_
        rotate_left
        · intro wz hSw
          have q3 := hSw.b1.at_ (i := 3) rfl
          go_simp
          all_goals (with_reducible rfl)
        try simp only [Act.put, List.setIfInBounds_toArray, List.set_cons_zero, List.set_cons_succ]
        generalize w4.drew = W0 at *
        refine wpAnyH_ready (rs := [2, 7]) (by kernel_rfl) (by simp) ?_
        refine AllReadyH.cons (o := { dst := some 30, op := Op.buildSlice 25 0 #[], type := 25, pos := "law.go:179", after := #[], guard := none }) rfl (fun K hK => ?_) ?_
        · rw [if_pos (by rfl)]
          show Oper.wp _ _ _ _ K _
          go_simp
          have hO2 := ownU_mt W0
          have hal : Below W0.heap.size W0 (W0.alloc (.cells #[] 72)) := (Below.refl _ W0).alloc (Nat.le_refl _) _
          have hOa : OwnU w4 (W0.alloc (.cells #[] 72)) (.slice (some ⟨W0.heap.size, 0, none⟩) 0 0) [] := ownsRow_mono hO2 hHeld.b4.size
          have hHn := hHeld.below hal
          refine hK.out _ _ hHn (fun hHeld => ?_)
          clear hK K hO2 hHn
          try simp only [Act.put, List.setIfInBounds_toArray, List.set_cons_zero, List.set_cons_succ]
          generalize hv0 : Value.slice (some ⟨W0.heap.size, 0, none⟩) 0 0 = v0 at *
          generalize hWn : W0.alloc (.cells #[] 72) = W1 at *
          refine wpAnyH_ready (rs := [5, 7]) (by kernel_rfl) (by simp) ?_
          refine AllReadyH.cons (o := { dst := some 33, op := Op.call { callee := Callee.builtin Builtin.append, args := #[Operand.tmp 30, Operand.tmp 32], argTypes := #[25, 25] }, type := 25, pos := "law.go:179", after := #[{ on := 2, ground := Ground.data }, { on := 4, ground := Ground.data }], guard := none }) rfl (fun K hK => ?_) ?_
          · obtain ⟨v', w', hr, hO5, hg5, hN5⟩ := append_rusN hOa hHeld.b4.size (hrs.out _ hHeld.bel) (by simp; omega)
            rw [List.nil_append] at hO5
            obtain ⟨va, vc, rfl, _⟩ := hO5.rus
            have hHn := hHeld.grown hg5 (fun k e => (World.ownsRow.lt hOa k e).1) hw4 hsl
            refine step_append_run rfl _ _ 25 25 rfl _ _ (by simp [Act.eval]) (by simp [Act.eval]) _ _ (hr _) ?_
            refine hK.out _ _ hHn (fun hHeld => ?_)
            clear hK K hHn hr
            try simp only [Act.put, List.setIfInBounds_toArray, List.set_cons_zero, List.set_cons_succ]
            generalize hWn : w' = W2 at *
            refine wpAnyH_take (i := 6) (oi := { dst := some 34, op := Op.build 27 #[(0, Operand.tmp 29), (1, Operand.tmp 33)], type := 27, pos := "law.go:179", after := #[{ on := 1, ground := Ground.data }, { on := 5, ground := Ground.data }], guard := none }) (v := ?_) rfl (by kernel_rfl) (by kernel_rfl) (by kernel_rfl) (fun _ _ _ h => h) (Or.inl ⟨by rfl, ?_⟩) hHeld ?_
            rotate_left
            · intro wz hSw
              go_simp
              all_goals (with_reducible rfl)
            try simp only [Act.put, List.setIfInBounds_toArray, List.set_cons_zero, List.set_cons_succ]
            refine wpAnyH_ready (rs := [7]) (by kernel_rfl) (by simp) ?_
            refine AllReadyH.cons (o := { dst := some 10, op := Op.alloc 27, type := 0, pos := "law.go:179", after := #[], guard := none }) rfl (fun K hK => ?_) AllReadyH.nil
            rw [if_pos (by rfl)]
            show Oper.wp _ _ _ _ K _
            go_simp
            have hal : Below W2.heap.size W2 (W2.alloc (.cells (zrL).toArray 27)) := (Below.refl _ W2).alloc (Nat.le_refl _) _
            have hBx0 := Blk.new W2 27 zrL
            have hHn := hHeld.below hal
            have hge : w4.heap.size ≤ W2.heap.size := hHeld.b4.size
            have hOb := hO5.below hal
            have hgn : (Value.slice va rs.length vc).ownBlock ≠ some W2.heap.size := fun e => by have := (World.ownsRow.lt hO5 _ e).2; omega
            refine hK.out _ _ hHn (fun hHeld => ?_)
            clear hK K hHn
            try simp only [Act.put, List.setIfInBounds_toArray, List.set_cons_zero, List.set_cons_succ]
            unfold zrL at *
            generalize hg10 : W2.heap.size = g10 at *
            generalize hWn : W2.alloc _ = W3 at *
            have hO5 := hOb
            refine wpAnyH_ready (rs := [8]) (by kernel_rfl) (by simp) ?_
            refine AllReadyH.cons (o := { dst := none, op := Op.store 27 (Operand.tmp 10) (Operand.tmp 34), type := 0, pos := "law.go:179", after := #[{ on := 7, ground := Ground.data }, { on := 6, ground := Ground.data }, { on := 5, ground := Ground.chain }, { on := 0, ground := Ground.phase }, { on := 1, ground := Ground.phase }, { on := 2, ground := Ground.phase }, { on := 3, ground := Ground.phase }, { on := 4, ground := Ground.phase }, { on := 5, ground := Ground.phase }, { on := 6, ground := Ground.phase }, { on := 7, ground := Ground.phase }], guard := none }) rfl (fun K hK => ?_) AllReadyH.nil
            obtain ⟨W9, hP⟩ := put_row (ty := 27) (x := liC s a n c va rs.length vc) hBx0 rfl sizeLi (li_oneL _ _ _ _ _ _ _)
            have hR : Hid (SpR w w4 g10 s a n c va vc rs W9) := ⟨hP.blk, World.ownsRow.kept hO5 hP.grown (.inr hgn), hge, hgn, below_grown hHeld.bel hP.grown hHeld.bel.size (Nat.le_trans hw4 hge), Nat.le_trans hHeld.b4.size hP.grown.size⟩
            rw [if_pos (by rfl)]
            refine wp_store_mid 27 _ _ rfl g10 0 (liC s a n c va rs.length vc).toArray (by rfl) (by rfl) hP.there hP.info (by simpa using hP.one) ?_
            generalize hWq : World.setCells _ _ _ _ = Wa
            obtain rfl : W9 = Wa := by rw [← hWq]; exact hP.eq
            clear hWq
            refine hK.out _ _ (hHeld.grown hP.grown (fun k e => by cases e; exact hge) hw4 hsl) (fun hHeld => ?_)
            clear hK K
            try simp only [Act.put]
            refine wpAnyH_done (by kernel_rfl) ?_ _
            go_wp2_with fail
            go_meet
            exact ⟨_, rfl, va, vc, hR⟩
          refine AllReadyH.cons (o := { dst := some 10, op := Op.alloc 27, type := 0, pos := "law.go:179", after := #[], guard := none }) rfl (fun K hK => ?_) AllReadyH.nil
          rw [if_pos (by rfl)]
          show Oper.wp _ _ _ _ K _
          go_simp
          have hal : Below W1.heap.size W1 (W1.alloc (.cells (zrL).toArray 27)) := (Below.refl _ W1).alloc (Nat.le_refl _) _
          have hBx0 := Blk.new W1 27 zrL
          have hHn := hHeld.below hal
          have hge : w4.heap.size ≤ W1.heap.size := hHeld.b4.size
          have hOb := hOa.below hal
          have hgn : v0.ownBlock ≠ some W1.heap.size := fun e => by have := (World.ownsRow.lt hOa _ e).2; omega
          refine hK.out _ _ hHn (fun hHeld => ?_)
          clear hK K hHn
          try simp only [Act.put, List.setIfInBounds_toArray, List.set_cons_zero, List.set_cons_succ]
          unfold zrL at *
          generalize hg10 : W1.heap.size = g10 at *
          generalize hWn : W1.alloc _ = W2 at *
          have hOa := hOb
          refine wpAnyH_ready (rs := [5]) (by kernel_rfl) (by simp) ?_
          refine AllReadyH.cons (o := { dst := some 33, op := Op.call { callee := Callee.builtin Builtin.append, args := #[Operand.tmp 30, Operand.tmp 32], argTypes := #[25, 25] }, type := 25, pos := "law.go:179", after := #[{ on := 2, ground := Ground.data }, { on := 4, ground := Ground.data }], guard := none }) rfl (fun K hK => ?_) AllReadyH.nil
          obtain ⟨v', w', hr, hO5, hg5, hN5⟩ := append_rusN hOa hHeld.b4.size (hrs.out _ hHeld.bel) (by simp; omega)
          rw [List.nil_append] at hO5
          obtain ⟨va, vc, rfl, _⟩ := hO5.rus
          have hHn := hHeld.grown hg5 (fun k e => (World.ownsRow.lt hOa k e).1) hw4 hsl
          refine step_append_run rfl _ _ 25 25 rfl _ _ (by simp [Act.eval]) (by simp [Act.eval]) _ _ (hr _) ?_
          have hgl : g10 < W2.heap.size := hBx0.lt
          have hBx5 := hBx0.grown hg5 (fun e => hgn e.symm)
          have hgn5 : (Value.slice va rs.length vc).ownBlock ≠ some g10 := by
            rcases hN5 with e | e | ⟨x, e, hx⟩
            · rw [e]; exact hgn
            · rw [e]; exact fun e => by cases e
            · rw [e]; intro e2; injection e2 with e2; omega
          refine hK.out _ _ hHn (fun hHeld => ?_)
          clear hK K hHn hr
          try simp only [Act.put, List.setIfInBounds_toArray, List.set_cons_zero, List.set_cons_succ]
          generalize hWn : w' = W3 at *
          refine wpAnyH_take (i := 6) (oi := { dst := some 34, op := Op.build 27 #[(0, Operand.tmp 29), (1, Operand.tmp 33)], type := 27, pos := "law.go:179", after := #[{ on := 1, ground := Ground.data }, { on := 5, ground := Ground.data }], guard := none }) (v := ?_) rfl (by kernel_rfl) (by kernel_rfl) (by kernel_rfl) (fun _ _ _ h => h) (Or.inl ⟨by rfl, ?_⟩) hHeld ?_
          rotate_left
          · intro wz hSw
            go_simp
            all_goals (with_reducible rfl)
          try simp only [Act.put, List.setIfInBounds_toArray, List.set_cons_zero, List.set_cons_succ]
          refine wpAnyH_ready (rs := [8]) (by kernel_rfl) (by simp) ?_
          refine AllReadyH.cons (o := { dst := none, op := Op.store 27 (Operand.tmp 10) (Operand.tmp 34), type := 0, pos := "law.go:179", after := #[{ on := 7, ground := Ground.data }, { on := 6, ground := Ground.data }, { on := 5, ground := Ground.chain }, { on := 0, ground := Ground.phase }, { on := 1, ground := Ground.phase }, { on := 2, ground := Ground.phase }, { on := 3, ground := Ground.phase }, { on := 4, ground := Ground.phase }, { on := 5, ground := Ground.phase }, { on := 6, ground := Ground.phase }, { on := 7, ground := Ground.phase }], guard := none }) rfl (fun K hK => ?_) AllReadyH.nil
          obtain ⟨W9, hP⟩ := put_row (ty := 27) (x := liC s a n c va rs.length vc) hBx5 rfl sizeLi (li_oneL _ _ _ _ _ _ _)
          have hR : Hid (SpR w w4 g10 s a n c va vc rs W9) := ⟨hP.blk, World.ownsRow.kept hO5 hP.grown (.inr hgn5), hge, hgn5, below_grown hHeld.bel hP.grown hHeld.bel.size (Nat.le_trans hw4 hge), Nat.le_trans hHeld.b4.size hP.grown.size⟩
          rw [if_pos (by rfl)]
          refine wp_store_mid 27 _ _ rfl g10 0 (liC s a n c va rs.length vc).toArray (by rfl) (by rfl) hP.there hP.info (by simpa using hP.one) ?_
          generalize hWq : World.setCells _ _ _ _ = Wa
          obtain rfl : W9 = Wa := by rw [← hWq]; exact hP.eq
          clear hWq
          refine hK.out _ _ (hHeld.grown hP.grown (fun k e => by cases e; exact hge) hw4 hsl) (fun hHeld => ?_)
          clear hK K
          try simp only [Act.put]
          refine wpAnyH_done (by kernel_rfl) ?_ _
          go_wp2_with fail
          go_meet
          exact ⟨_, rfl, va, vc, hR⟩
        refine AllReadyH.cons (o := { dst := some 10, op := Op.alloc 27, type := 0, pos := "law.go:179", after := #[], guard := none }) rfl (fun K hK => ?_) AllReadyH.nil
        rw [if_pos (by rfl)]
        show Oper.wp _ _ _ _ K _
        go_simp
        have hal : Below W0.heap.size W0 (W0.alloc (.cells (zrL).toArray 27)) := (Below.refl _ W0).alloc (Nat.le_refl _) _
        have hBx0 := Blk.new W0 27 zrL
        have hHn := hHeld.below hal
        have hge : w4.heap.size ≤ W0.heap.size := hHeld.b4.size
        refine hK.out _ _ hHn (fun hHeld => ?_)
        clear hK K hHn
        try simp only [Act.put, List.setIfInBounds_toArray, List.set_cons_zero, List.set_cons_succ]
        unfold zrL at *
        generalize hg10 : W0.heap.size = g10 at *
        generalize hWn : W0.alloc _ = W1 at *
        refine wpAnyH_ready (rs := [2]) (by kernel_rfl) (by simp) ?_
        refine AllReadyH.cons (o := { dst := some 30, op := Op.buildSlice 25 0 #[], type := 25, pos := "law.go:179", after := #[], guard := none }) rfl (fun K hK => ?_) AllReadyH.nil
        rw [if_pos (by rfl)]
        show Oper.wp _ _ _ _ K _
        go_simp
        have hO2 := ownU_mt W1
        have hal : Below W1.heap.size W1 (W1.alloc (.cells #[] 72)) := (Below.refl _ W1).alloc (Nat.le_refl _) _
        have hOa : OwnU w4 (W1.alloc (.cells #[] 72)) (.slice (some ⟨W1.heap.size, 0, none⟩) 0 0) [] := ownsRow_mono hO2 hHeld.b4.size
        have hHn := hHeld.below hal
        have hBx := hBx0.below hal hBx0.lt
        have hgn : (Value.slice (some ⟨W1.heap.size, 0, none⟩) 0 0).ownBlock ≠ some g10 := fun e => by
          have e2 : W1.heap.size = g10 := Option.some.inj e
          have := hBx0.lt
          omega
        have hglt := hBx0.lt
        refine hK.out _ _ hHn (fun hHeld => ?_)
        clear hK K hO2 hHn
        try simp only [Act.put, List.setIfInBounds_toArray, List.set_cons_zero, List.set_cons_succ]
        generalize hv0 : Value.slice (some ⟨W1.heap.size, 0, none⟩) 0 0 = v0 at *
        generalize hWn : W1.alloc (.cells #[] 72) = W2 at *
        refine wpAnyH_ready (rs := [5]) (by kernel_rfl) (by simp) ?_
        refine AllReadyH.cons (o := { dst := some 33, op := Op.call { callee := Callee.builtin Builtin.append, args := #[Operand.tmp 30, Operand.tmp 32], argTypes := #[25, 25] }, type := 25, pos := "law.go:179", after := #[{ on := 2, ground := Ground.data }, { on := 4, ground := Ground.data }], guard := none }) rfl (fun K hK => ?_) AllReadyH.nil
        obtain ⟨v', w', hr, hO5, hg5, hN5⟩ := append_rusN hOa hHeld.b4.size (hrs.out _ hHeld.bel) (by simp; omega)
        rw [List.nil_append] at hO5
        obtain ⟨va, vc, rfl, _⟩ := hO5.rus
        have hHn := hHeld.grown hg5 (fun k e => (World.ownsRow.lt hOa k e).1) hw4 hsl
        refine step_append_run rfl _ _ 25 25 rfl _ _ (by simp [Act.eval]) (by simp [Act.eval]) _ _ (hr _) ?_
        have hgl : g10 < W2.heap.size := hBx.lt
        have hBx5 := hBx.grown hg5 (fun e => hgn e.symm)
        have hgn5 : (Value.slice va rs.length vc).ownBlock ≠ some g10 := by
          rcases hN5 with e | e | ⟨x, e, hx⟩
          · rw [e]; exact hgn
          · rw [e]; exact fun e => by cases e
          · rw [e]; intro e2; injection e2 with e2; omega
        refine hK.out _ _ hHn (fun hHeld => ?_)
        clear hK K hHn hr
        try simp only [Act.put, List.setIfInBounds_toArray, List.set_cons_zero, List.set_cons_succ]
        generalize hWn : w' = W3 at *
        refine wpAnyH_take (i := 6) (oi := { dst := some 34, op := Op.build 27 #[(0, Operand.tmp 29), (1, Operand.tmp 33)], type := 27, pos := "law.go:179", after := #[{ on := 1, ground := Ground.data }, { on := 5, ground := Ground.data }], guard := none }) (v := ?_) rfl (by kernel_rfl) (by kernel_rfl) (by kernel_rfl) (fun _ _ _ h => h) (Or.inl ⟨by rfl, ?_⟩) hHeld ?_
        rotate_left
        · intro wz hSw
          go_simp
          all_goals (with_reducible rfl)
        try simp only [Act.put, List.setIfInBounds_toArray, List.set_cons_zero, List.set_cons_succ]
        refine wpAnyH_ready (rs := [8]) (by kernel_rfl) (by simp) ?_
        refine AllReadyH.cons (o := { dst := none, op := Op.store 27 (Operand.tmp 10) (Operand.tmp 34), type := 0, pos := "law.go:179", after := #[{ on := 7, ground := Ground.data }, { on := 6, ground := Ground.data }, { on := 5, ground := Ground.chain }, { on := 0, ground := Ground.phase }, { on := 1, ground := Ground.phase }, { on := 2, ground := Ground.phase }, { on := 3, ground := Ground.phase }, { on := 4, ground := Ground.phase }, { on := 5, ground := Ground.phase }, { on := 6, ground := Ground.phase }, { on := 7, ground := Ground.phase }], guard := none }) rfl (fun K hK => ?_) AllReadyH.nil
        obtain ⟨W9, hP⟩ := put_row (ty := 27) (x := liC s a n c va rs.length vc) hBx5 rfl sizeLi (li_oneL _ _ _ _ _ _ _)
        have hR : Hid (SpR w w4 g10 s a n c va vc rs W9) := ⟨hP.blk, World.ownsRow.kept hO5 hP.grown (.inr hgn5), hge, hgn5, below_grown hHeld.bel hP.grown hHeld.bel.size (Nat.le_trans hw4 hge), Nat.le_trans hHeld.b4.size hP.grown.size⟩
        rw [if_pos (by rfl)]
        refine wp_store_mid 27 _ _ rfl g10 0 (liC s a n c va rs.length vc).toArray (by rfl) (by rfl) hP.there hP.info (by simpa using hP.one) ?_
        generalize hWq : World.setCells _ _ _ _ = Wa
        obtain rfl : W9 = Wa := by rw [← hWq]; exact hP.eq
        clear hWq
        refine hK.out _ _ (hHeld.grown hP.grown (fun k e => by cases e; exact hge) hw4 hsl) (fun hHeld => ?_)
        clear hK K
        try simp only [Act.put]
        refine wpAnyH_done (by kernel_rfl) ?_ _
        go_wp2_with fail
        go_meet
        exact ⟨_, rfl, va, vc, hR⟩
      case rest =>
        obtain ⟨g, rfl, va, vc, hR⟩ := hcut
        go_upto_region 7 with fail
        have hcs := (Sto.chkL_all hck0).1
        have hlr := (Sto.chkL_all hck0).2.1
        obtain ⟨m, hm⟩ : ∃ m : Int, Hid ((y : Int) % 5 = m) := ⟨_, rfl⟩
        have hm5 : m = 0 ∨ m = 1 ∨ m = 2 ∨ m = 3 ∨ m = 4 := by rw [← hm.out]; omega
        go_cut [36] (fun s36 wx => s36 = .int .u8 m ∧ Hid (SpR w w4 g s a n c va vc rs wx))
        case first =>
          have hm2 := hm.out
          clear hm hm5
          go_wp2_with fail
          go_meet
          exact ⟨by rw [hm2], hR⟩
        obtain ⟨rfl, hR⟩ := hcut
        clear hm
        apply_assumption
        go_cut [36] (fun _ wx => ∃ (l : List Rul) (xa : Option Addr) (xc : Nat), Hid (SpR w w4 g s a n c xa xc l wx) ∧ Hid (SpB s l))
        case first =>
          rcases hm5 with hm | hm | hm | hm | hm
          · subst hm
            obtain ⟨va', vc', W', hr, hBW, hR2⟩ := hR.out.app (⟨512, 2, 1⟩ : Rul) (by omega) hw4
            have hr' := Lib.hid hr
            have hR2' := Lib.hid hR2
            have hbd2 : Hid (SpB s (rs ++ [(⟨512, 2, 1⟩ : Rul)])) := by
              show Sto.chkL s (rs ++ [(⟨512, 2, 1⟩ : Rul)]) = _
              rw [Sto.chkL_bad hcs (by decide), List.length_append, List.length_singleton]
              by_cases h : rs.length + 1 ≤ 64
              · rw [if_pos h, if_neg (by omega)]
              · rw [if_neg h, if_pos (by omega)]
            obtain ⟨l', hl'⟩ : ∃ l', Hid (rs ++ [(⟨512, 2, 1⟩ : Rul)] = l') := ⟨_, rfl⟩
            rw [hl'.out] at hr' hR2' hbd2
            have c3 := hR.out.bx.at_ (i := 3) rfl
            have d3 := hBW.at_ (i := 3) rfl
            have e3 := hBW.frozen 3
            clear hr hR2 hBW hl' hR
            go_wp2_with (first
              | (at_builtin; refine Lib.wpList_append_run _ rfl _ _ _ _ rfl _ _ rfl rfl _ _ (hr'.out _) ?_))
            go_meet
            exact ⟨l', va', vc', hR2', hbd2⟩
          · subst hm
            obtain ⟨va', vc', W', hr, hBW, hR2⟩ := hR.out.app (⟨-1, 2, 1⟩ : Rul) (by omega) hw4
            have hr' := Lib.hid hr
            have hR2' := Lib.hid hR2
            have hbd2 : Hid (SpB s (rs ++ [(⟨-1, 2, 1⟩ : Rul)])) := by
              show Sto.chkL s (rs ++ [(⟨-1, 2, 1⟩ : Rul)]) = _
              rw [Sto.chkL_bad hcs (by decide), List.length_append, List.length_singleton]
              by_cases h : rs.length + 1 ≤ 64
              · rw [if_pos h, if_neg (by omega)]
              · rw [if_neg h, if_pos (by omega)]
            obtain ⟨l', hl'⟩ : ∃ l', Hid (rs ++ [(⟨-1, 2, 1⟩ : Rul)] = l') := ⟨_, rfl⟩
            rw [hl'.out] at hr' hR2' hbd2
            have c3 := hR.out.bx.at_ (i := 3) rfl
            have d3 := hBW.at_ (i := 3) rfl
            have e3 := hBW.frozen 3
            clear hr hR2 hBW hl' hR
            go_wp2_with (first
              | (at_builtin; refine Lib.wpList_append_run _ rfl _ _ _ _ rfl _ _ rfl rfl _ _ (hr'.out _) ?_))
            go_meet
            exact ⟨l', va', vc', hR2', hbd2⟩
          · subst hm
            obtain ⟨va', vc', W', hr, hBW, hR2⟩ := hR.out.app (⟨0, 0, 1⟩ : Rul) (by omega) hw4
            have hr' := Lib.hid hr
            have hR2' := Lib.hid hR2
            have hbd2 : Hid (SpB s (rs ++ [(⟨0, 0, 1⟩ : Rul)])) := by
              show Sto.chkL s (rs ++ [(⟨0, 0, 1⟩ : Rul)]) = _
              rw [Sto.chkL_bad hcs (by decide), List.length_append, List.length_singleton]
              by_cases h : rs.length + 1 ≤ 64
              · rw [if_pos h, if_neg (by omega)]
              · rw [if_neg h, if_pos (by omega)]
            obtain ⟨l', hl'⟩ : ∃ l', Hid (rs ++ [(⟨0, 0, 1⟩ : Rul)] = l') := ⟨_, rfl⟩
            rw [hl'.out] at hr' hR2' hbd2
            have c3 := hR.out.bx.at_ (i := 3) rfl
            have d3 := hBW.at_ (i := 3) rfl
            have e3 := hBW.frozen 3
            clear hr hR2 hBW hl' hR
            go_wp2_with (first
              | (at_builtin; refine Lib.wpList_append_run _ rfl _ _ _ _ rfl _ _ rfl rfl _ _ (hr'.out _) ?_))
            go_meet
            exact ⟨l', va', vc', hR2', hbd2⟩
          · subst hm
            obtain ⟨va', vc', W', hr, hBW, hR2⟩ := hR.out.app (⟨0, 2, -1⟩ : Rul) (by omega) hw4
            have hr' := Lib.hid hr
            have hR2' := Lib.hid hR2
            have hbd2 : Hid (SpB s (rs ++ [(⟨0, 2, -1⟩ : Rul)])) := by
              show Sto.chkL s (rs ++ [(⟨0, 2, -1⟩ : Rul)]) = _
              rw [Sto.chkL_bad hcs (by decide), List.length_append, List.length_singleton]
              by_cases h : rs.length + 1 ≤ 64
              · rw [if_pos h, if_neg (by omega)]
              · rw [if_neg h, if_pos (by omega)]
            obtain ⟨l', hl'⟩ : ∃ l', Hid (rs ++ [(⟨0, 2, -1⟩ : Rul)] = l') := ⟨_, rfl⟩
            rw [hl'.out] at hr' hR2' hbd2
            have c3 := hR.out.bx.at_ (i := 3) rfl
            have d3 := hBW.at_ (i := 3) rfl
            have e3 := hBW.frozen 3
            clear hr hR2 hBW hl' hR
            go_wp2_with (first
              | (at_builtin; refine Lib.wpList_append_run _ rfl _ _ _ _ rfl _ _ rfl rfl _ _ (hr'.out _) ?_))
            go_meet
            exact ⟨l', va', vc', hR2', hbd2⟩
          · subst hm
            go_wp2_with fail
            go_loopw [74] (fun _ wr => ∃ (l : List Rul) (xa : Option Addr) (xc : Nat), Hid (SpR w w4 g s a n c xa xc l wr) ∧ l.length ≤ 65) (fun _ wr => 65 - lenAt g wr)
            case atStart => exact ⟨rs, va, vc, hR, by omega⟩
            case round =>
              obtain ⟨l, xa, xc, hL, hl65⟩ := hrel
              clear hR
              have hla : lenAt g wr = l.length := by unfold lenAt; rw [hL.out.bx.at_ (i := 3) rfl]
              have c3 := hL.out.bx.at_ (i := 3) rfl
              by_cases hlt : l.length ≤ 64
              · have g1 : decide ((l.length : Int) ≤ 64) = true := decide_eq_true (by omega)
                obtain ⟨va', vc', W', hr, hBW, hR2⟩ := hL.out.app (⟨0, 2, 1⟩ : Rul) (by omega) hw4
                have hr' := Lib.hid hr
                have hR2' := Lib.hid hR2
                obtain ⟨l', hl'⟩ : ∃ l', Hid (l ++ [(⟨0, 2, 1⟩ : Rul)] = l') := ⟨_, rfl⟩
                have hll : l'.length = l.length + 1 := by rw [← hl'.out, List.length_append]; rfl
                rw [hl'.out] at hr' hR2'
                have hl2 : lenAt g (W'.setCell ⟨g, 3, none⟩ (.slice va' l'.length vc')) = l'.length := by unfold lenAt; rw [hR2'.out.bx.at_ (i := 3) rfl]
                have hl2' := Lib.hid hl2
                have hll' := Lib.hid hll
                have hla' := Lib.hid hla
                have d3 := hBW.at_ (i := 3) rfl
                have e3 := hBW.frozen 3
                clear hr hR2 hBW hl' hL hla hl2 hll
                go_wp2_with (first
                  | (at_builtin; refine Lib.wpList_append_run _ rfl _ _ _ _ rfl _ _ rfl rfl _ _ (hr'.out _) ?_))
                go_roundw
                case rel => exact ⟨l', va', vc', hR2', by have := hll'.out; omega⟩
                case measure => have h1 := hl2'.out; have h2 := hll'.out; have h3 := hla'.out; show 65 - lenAt g _ < 65 - lenAt g wr; rw [h1, h2, h3]; omega
              · have g1 : decide ((l.length : Int) ≤ 64) = false := decide_eq_false (by omega)
                have hbd2 : Hid (SpB s l) := by
                  show Sto.chkL s l = _
                  rw [Sto.chkL_many hcs (by omega), if_pos (by omega)]
                clear hla
                go_wp2_with fail
                go_meet
                exact ⟨l, xa, xc, hL, hbd2⟩
        case rest =>
          clear hR hm5
          obtain ⟨l, va, vc, hR, hB⟩ := hcut
          obtain ⟨q, hq⟩ : ∃ q, Hid (Sto.chkL s l = q) := ⟨_, rfl⟩
          have hq2 : q = if 64 < l.length then 2 else 310 := by rw [← hq.out]; exact hB.out
          have hqz : q ≠ 0 := by rw [hq2]; split <;> decide
          have c3 := hR.out.bx.at_ (i := 3) rfl
          clear hB
          go_upto_if 84 with fail
          go_cut [9] (fun s9 wx => s9 = .int .i64 q ∧ Hid (SpR w w4 g s a n c va vc l wx))
          case first =>
            by_cases hl : 64 < l.length
            · have g1 : decide ((64 : Int) < (l.length : Int)) = true := decide_eq_true (by omega)
              rw [if_pos hl] at hq2
              go_wp2_with fail
              all_goals (first | (exfalso; omega) | (go_meet; exact ⟨by rw [hq2], hR⟩))
            · have g1 : decide ((64 : Int) < (l.length : Int)) = false := decide_eq_false (by omega)
              rw [if_neg hl] at hq2
              go_wp2_with fail
              all_goals (first | (exfalso; omega) | (go_meet; exact ⟨by rw [hq2], hR⟩))
          case rest =>
            clear hR c3 hq2
            obtain ⟨rfl, hR⟩ := hcut
            have hqb := Sto.honest_bad dev f hq.out hqz
            obtain ⟨k, okk, hk, _⟩ := show_hk (rs := l) (dev := dev) (hbd.out f)
            have hok' := Lib.hid okk
            have hbt : Hid (Below w.heap.size w wc) := hR.out.bel
            have hs1 := Lib.hid (shk_any (rs := l) (dev := dev) hk hf (HT'.out.below hbt.out) (hsv.out _ hbt.out) hR.out.rus (hbd.out f))
            have hh1 := Lib.hid (fun W (h : Below w.heap.size w W) (hr : RuS W va l.length vc l) => lhonest_any a n c s va l.length vc l dev f W (HT'.out.below h) (hsv.out _ h) hr (hbd.out f))
            have ha1 := Lib.hid (fun W (h : Below w.heap.size w W) (hr : RuS W va l.length vc l) => lapart_any a n c s va l.length vc l dev dev f W (HT'.out.below h) (hsv.out _ h) hr (hbd.out f))
            have hc1 := Lib.hid (fun W (h : Below w.heap.size w W) (hr : RuS W va l.length vc l) => liCheck_any a n c s va l.length vc l W (HT'.out.below h) (hsv.out _ h) hr)
            rw [hqb.1] at hh1
            rw [hqb.2.1] at ha1
            rw [hqb.2.2] at hs1
            rw [hq.out] at hc1
            unfold liC at hh1 ha1 hc1
            clear hqb hk okk
            have m0 := hR.out.bx.at_ (i := 0) rfl
            have m1 := hR.out.bx.at_ (i := 1) rfl
            have m2 := hR.out.bx.at_ (i := 2) rfl
            have m3 := hR.out.bx.at_ (i := 3) rfl
            go_wp2_with fail
            refine hs1.out.mono ?_
            rintro e w5 ⟨ya, yc, rfl, _, hst⟩
            clear hs1 m0 m1 m2 m3
            replace hR := Lib.hid (hR.out.below hst)
            replace hbt := Lib.hid (hbt.out.trans (hst.mono hbt.out.size))
            clear hst
            obtain ⟨v5, hP⟩ : ∃ V, Hid (PutR 36 (w5.alloc (.cells (zeroHd : List Value).toArray 36)) V w5.heap.size 36 (hdC k)) := put_row (Blk.new w5 36 zeroHd) (by rw [hdC_len hok'.out, zeroHd_len]) (by rw [hdC_len hok'.out]; exact size37) (hdC_r hok'.out).one
            have hst := below_grown ((Below.refl _ w5).alloc (Nat.le_refl _) _) hP.out.grown (by simp) (Nat.le_refl _)
            replace hR := Lib.hid (hR.out.below hst)
            replace hbt := Lib.hid (hbt.out.trans (hst.mono hbt.out.size))
            clear hst
            have m0 := hR.out.bx.at_ (i := 0) rfl
            have m1 := hR.out.bx.at_ (i := 1) rfl
            have m2 := hR.out.bx.at_ (i := 2) rfl
            have m3 := hR.out.bx.at_ (i := 3) rfl
            go_wp2_with (first
              | (refine wpList_store_mid (by rfl) 36 (.tmp 12) (.tmp 91) (by rfl) w5.heap.size 0 (hdC k).toArray (by rfl) (by rfl) hP.out.there hP.out.info (by simpa using hP.out.one) ?_
                 generalize hWq : World.setCells _ _ _ _ = Wa
                 obtain rfl : v5 = Wa := by rw [← hWq]; exact hP.out.eq
                 clear hWq))
            refine (hh1.out _ hbt.out hR.out.rus).mono ?_
            rintro e w6 ⟨rfl, hst⟩
            clear hh1 m0 m1 m2 m3
            replace hR := Lib.hid (hR.out.below hst)
            replace hbt := Lib.hid (hbt.out.trans (hst.mono hbt.out.size))
            clear hst
            have m0 := hR.out.bx.at_ (i := 0) rfl
            have m1 := hR.out.bx.at_ (i := 1) rfl
            have m2 := hR.out.bx.at_ (i := 2) rfl
            have m3 := hR.out.bx.at_ (i := 3) rfl
            go_wp2_with fail
            refine (ha1.out _ hbt.out hR.out.rus).mono ?_
            rintro e w7 ⟨rfl, hst⟩
            clear ha1 m0 m1 m2 m3
            replace hR := Lib.hid (hR.out.below hst)
            replace hbt := Lib.hid (hbt.out.trans (hst.mono hbt.out.size))
            clear hst
            have m0 := hR.out.bx.at_ (i := 0) rfl
            have m1 := hR.out.bx.at_ (i := 1) rfl
            have m2 := hR.out.bx.at_ (i := 2) rfl
            have m3 := hR.out.bx.at_ (i := 3) rfl
            go_wp2_with fail
            refine (hc1.out _ hbt.out hR.out.rus).mono ?_
            rintro e w8 ⟨rfl, hst⟩
            clear hc1 m0 m1 m2 m3
            replace hR := Lib.hid (hR.out.below hst)
            replace hbt := Lib.hid (hbt.out.trans (hst.mono hbt.out.size))
            clear hst
            have hf0 := Lib.hid (hfin.out _ hbt.out)
            clear hqz
            go_wp2_with fail
            exact hf0.out
end Go.Proofs.YtiionehcmoginaaGreatDoor
namespace Go.Proofs.YtiionehcmoginaaGreatDoor.lawLSpoiled
open Go.ChangeShapes Go.WideShapes Go.ChangeAt Go.RowKit Go.Mem
open Go.Proofs.YtiionehcmoginaaGreatDoor

set_option maxRecDepth 100000 in
theorem lifted (os : Os) (started : os.Started) (H : Type) (enc : TypeId × Value → H) :
    ReturnsInHanded {} Tryz.checked os 8 .any (fun w args => (Rows.liarSpoiledSpec.pre enc Tryz.prog Tryz.f8 [] false w args ∧ laidMetH Tryz.prog laid2 w) ∧ sizedMet enc Tryz.prog Tryz.f8 (OpenSpec.ofChange Rows.liarSpoiledSpec) false w args)
      (Rows.liarSpoiledSpec.post enc Tryz.prog Tryz.f8 false true false false) := by
  refine returnsInHanded_of_change_and (C := Tryz.checked) (X := fun w _ => laidMetH Tryz.prog laid2 w) (fun _ _ _ hh h => h.of_heap hh) own started (by kernel_rfl) Tryz.func8
    (ChangeSpec.witness_shaped (enc := enc) (C := Tryz.checked) (os := os) (X := fun w _ => laidMetH Tryz.prog laid2 w) false (World.doorLaid Tryz.prog 400 os) #[.agg (liC ⟨0, 0, []⟩ none 0 0 none 0 0).toArray, .int .i64 0, .int .i64 0, .int .u8 0] 8 rfl (World.shaped_of_RefB (by kernel_rfl) (by kernel_rfl)) (by kernel_rfl) (by kernel_rfl) (by kernel_rfl) (door_met os _)) ?_
  intro W base args ds gs before hval0 hW _ hwt hL _
  have hval : ∀ (j : Nat) t v, Tryz.f8.params[j]? = some t → args[j]? = some v → Value.okWide Tryz.prog W .any base t v := hval0
  have hW' := hW
  obtain ⟨p, q, hA0, hV, rfl, hfz, hnd⟩ := hW
  have hA : DataW.TrodAll enc Tryz.prog W 0 (fun _ => true) true Tryz.f8.params.toList args.toList ds p := hA0
  rw [Tryz.params8] at hA hval
  obtain ⟨v0, vs0, d0, ds0, p0, q0, hargs, rfl, rfl, h0, r0⟩ := trodAll_cons hA
  obtain ⟨v1, vs1, d1, ds1, p1, q1, rfl, rfl, rfl, h1, r1⟩ := trodAll_cons r0
  obtain ⟨v2, vs2, d2, ds2, p2, q2, rfl, rfl, rfl, h2, r2⟩ := trodAll_cons r1
  obtain ⟨v3, vs3, d3, ds3, p3, q3, rfl, rfl, rfl, h3, r3⟩ := trodAll_cons r2
  obtain ⟨rfl, rfl, rfl⟩ := trodAll_nil r3
  obtain rfl : args = #[v0, v1, v2, v3] := by cases args; simp_all
  obtain ⟨rfl, rfl⟩ := trodVars_none hV
  have lt0 : ∀ x ∈ p0, x.block < W.heap.size := by obtain ⟨m, hm⟩ := h0; exact DataW.trod_lt m _ _ _ hm
  have lt1 : ∀ x ∈ p1, x.block < W.heap.size := by obtain ⟨m, hm⟩ := h1; exact DataW.trod_lt m _ _ _ hm
  have lt2 : ∀ x ∈ p2, x.block < W.heap.size := by obtain ⟨m, hm⟩ := h2; exact DataW.trod_lt m _ _ _ hm
  have lt3 : ∀ x ∈ p3, x.block < W.heap.size := by obtain ⟨m, hm⟩ := h3; exact DataW.trod_lt m _ _ _ hm
  have k0' := h0
  have k1' := h1
  have k2' := h2
  have k3' := h3
  obtain ⟨cs0, rfl, _⟩ := okWide_struct Tryz.underlying27 (hval 0 27 v0 rfl rfl)
  obtain ⟨m0, hm0⟩ := h0
  obtain ⟨s0, a0, n0, c0, ra0, rn0, rc0, rs0, e0, S0, R0⟩ := open_liar (cs := cs0.toList) (by simpa [Value.cells] using hm0)
  obtain rfl : cs0 = (liC s0 a0 n0 c0 ra0 rn0 rc0).toArray := by rw [← e0]
  clear hm0 e0
  obtain ⟨x1, rfl⟩ := okWide_int Tryz.underlying3 (hval 1 3 v1 rfl rfl)
  obtain ⟨m1, hm1⟩ := h1
  obtain ⟨x1', e1, i1⟩ := open_int1 (cs := [.int .i64 x1]) (by simpa [Value.cells] using hm1)
  obtain rfl : x1 = x1' := by simpa using e1
  clear hm1 e1
  obtain ⟨x2, rfl⟩ := okWide_int Tryz.underlying3 (hval 2 3 v2 rfl rfl)
  obtain ⟨m2, hm2⟩ := h2
  obtain ⟨x2', e2, i2⟩ := open_int1 (cs := [.int .i64 x2]) (by simpa [Value.cells] using hm2)
  obtain rfl : x2 = x2' := by simpa using e2
  clear hm2 e2
  obtain ⟨z3, rfl⟩ := okWide_int Tryz.underlying5 (hval 3 5 v3 rfl rfl)
  obtain ⟨m3, hm3⟩ := h3
  obtain ⟨x3, e3, i3⟩ := open_u8 (cs := [.int .u8 z3]) (by simpa [Value.cells] using hm3)
  obtain rfl : z3 = (x3 : Int) := by simpa using e3
  clear hm3 e3
  have hT := tabs_of_laid hL
  clear hA0 hval0
  refine (lspoiled_walk s0 a0 n0 c0 ra0 rn0 rc0 rs0 x1 i1 x2 i2 x3 i3 W hT S0 R0).mono fun e W' ⟨he, bel⟩ => ?_
  subst he
  exact ⟨_, rfl, _, _, _, [], _, [], hW', trodAll_mk1 (shut_bool Tryz.underlying4 _),
    (trodAll_cons_mk (Below.trod laidOut (by kernel_rfl) (of_decide_eq_true (by kernel_rfl)) k0' bel lt0) (trodAll_cons_mk (Below.trod laidOut (by kernel_rfl) (of_decide_eq_true (by kernel_rfl)) k1' bel lt1) (trodAll_cons_mk (Below.trod laidOut (by kernel_rfl) (of_decide_eq_true (by kernel_rfl)) k2' bel lt2) (trodAll_cons_mk (Below.trod laidOut (by kernel_rfl) (of_decide_eq_true (by kernel_rfl)) k3' bel lt3) trodAll_mk0)))), rfl, bel.frame _, fun h => by cases h⟩

theorem over : Rows.LiarSpoiledSaid :=
  OpenClaim.holds_of_wide 8 Tryz.f8 rfl rfl rfl rfl rfl rfl rfl ⟨rfl, rfl, rfl, rfl, rfl⟩ rfl rfl rfl rfl rfl (by kernel_rfl) Tryz.func8 (by kernel_rfl)
    (of_decide_eq_true (by kernel_rfl)) (by unfold Func.isWrapper; first | (rw [if_pos (by decide +kernel)]; kernel_rfl) | (rw [if_neg (by decide +kernel)]; exact ⟨rfl, rfl⟩))
    (fun os started H enc _ => lifted os started H enc)

theorem proved : Rows.LiarSpoiledCardSaid :=
  Claim7.holds_tied_plain_at .later [] [.data, .data] true (true, "61e2f70981a8c0bfaff58b11096e9b014427882e52d813c9818ce2f80f8e3bab") false
    over (fun _ h => by cases h) (by kernel_rfl) (fun _ h => by cases h) liarSpoiled_row_tie rfl ⟨rfl, rfl⟩ (by kernel_rfl) rfl
    (fun f fn hf hfn => by
      obtain rfl : f = 8 := Option.some.inj ((show Tryz.prog.funcNamed "chartroom/chartroomlaw31.LiarSpoiled" = some 8 by kernel_rfl).symm.trans hf) |>.symm
      obtain rfl : fn = Tryz.f8 := (Option.some.inj (Tryz.func8.symm.trans hfn)).symm
      exact ⟨by kernel_rfl, fun j t ht => by
        rw [Tryz.params8] at ht
        have hm : t ∈ [27, 3, 3, 5] := by simpa using Array.mem_of_getElem? ht
        have hall : ([27, 3, 3, 5].all fun u => !Tryz.prog.wantsStandIn u) = true := by kernel_rfl
        exact (show Tryz.prog.wantsStandIn t = false by simpa using List.all_eq_true.1 hall t hm)⟩)
    (by kernel_rfl)
#print axioms proved
end Go.Proofs.YtiionehcmoginaaGreatDoor.lawLSpoiled

