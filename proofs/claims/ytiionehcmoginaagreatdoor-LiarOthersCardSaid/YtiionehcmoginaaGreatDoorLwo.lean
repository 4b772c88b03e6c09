/- chartroomlaw31.without: the rules without those about a device -/
import Derived.Test.YtiionehcmoginaaGreatDoorLiC
namespace Go.Sto
theorem wo_step {rs : List Rul} {k : Nat} {x : Rul} (o : Int) (hx : rs[k]? = some x) : wo (rs.take (k + 1)) o = if x.dev = o then wo (rs.take k) o else wo (rs.take k) o ++ [x] := by
  have hk := (List.getElem?_eq_some_iff.1 hx).1
  rw [List.take_succ_eq_append_getElem hk, (List.getElem?_eq_some_iff.1 hx).2]
  unfold wo
  rw [List.filter_append, List.filter_cons]
  by_cases h : x.dev = o
  · rw [if_pos h, if_neg (by simp [h])]; simp
  · rw [if_neg h, if_pos (by simp [h])]; simp
end Go.Sto
namespace Go.Proofs.YtiionehcmoginaaGreatDoor
open Go.RowKit Go.Mem Go.Shelf
open Go.Sto (Ent St Rul forkE BdL wo)
def zrW : List Value := [.int .i64 0, .int .i64 0, .slice none 0 0, .slice none 0 0]
/-- the three boxes of without, and the rules that are kept, in a row of their own. -/
structure WoI (w W3 : World) (sb : Nat) (s : St) (a : Option Addr) (n c : Nat) (ra : Option Addr) (rn rc : Nat) (va : Option Addr) (vc : Nat) (l : List Rul) (wz : World) : Prop where
  b3 : Blk wz sb 27 (liC s a n c ra rn rc)
  b6 : Blk wz (sb + 1) 27 zrW
  b7 : Blk wz (sb + 2) 27 (liC s a n c va l.length vc)
  own : OwnU W3 wz (.slice va l.length vc) l
  bel : Below w.heap.size w wz
  b4 : W3.heap.size ≤ wz.heap.size
section
variable {w W3 wz wq : World} {sb : Nat} {s : St} {a : Option Addr} {n c : Nat} {ra : Option Addr} {rn rc : Nat} {va : Option Addr} {vc : Nat} {l : List Rul}
theorem WoI.below (h : WoI w W3 sb s a n c ra rn rc va vc l wz) (hb : Below wz.heap.size wz wq) : WoI w W3 sb s a n c ra rn rc va vc l wq :=
  ⟨h.b3.below hb h.b3.lt, h.b6.below hb h.b6.lt, h.b7.below hb h.b7.lt, h.own.below hb, h.bel.trans (hb.mono h.bel.size), Nat.le_trans h.b4 hb.size⟩
theorem WoI.app (h : WoI w W3 sb s a n c ra rn rc va vc l wz) (h1 : sb + 3 ≤ W3.heap.size) (h2 : w.heap.size = sb) (r : Rul) (hn : l.length + 1 ≤ 100000) :
    ∃ va' vc' W', (∀ ty, (Builtin.append_ #[25, 25] ty #[.slice va l.length vc, .slice (some ⟨wz.heap.size, 0, none⟩) 1 1]).run Tryz.prog (wz.alloc (.cells (ruC r).toArray 72)) = .ok (.slice va' (l ++ [r]).length vc') W') ∧
      Blk W' sb 27 (liC s a n c ra rn rc) ∧ Below w.heap.size w W' ∧ Blk W' (sb + 2) 27 (liC s a n c va l.length vc) ∧ WoI w W3 sb s a n c ra rn rc va' vc' (l ++ [r]) (W'.setCell ⟨sb + 2, 3, none⟩ (.slice va' (l ++ [r]).length vc')) := by
  obtain ⟨v', W', hr, hO, hg, hN⟩ := append_ru r h.own h.b4 hn
  obtain ⟨va', vc', rfl, _⟩ := hO.rus
  have hbs : ∀ k, (Value.slice va l.length vc).ownBlock = some k → W3.heap.size ≤ k := fun k e => (World.ownsRow.lt h.own k e).1
  have hbs' : ∀ k, (Value.slice va' (l ++ [r]).length vc').ownBlock = some k → W3.heap.size ≤ k := fun k e => (World.ownsRow.lt hO k e).1
  have hB3 := h.b3.grown hg (fun e => by have := hbs _ e.symm; omega)
  have hB6 := h.b6.grown hg (fun e => by have := hbs _ e.symm; omega)
  have hB7 := h.b7.grown hg (fun e => by have := hbs _ e.symm; omega)
  have hgs : W'.grownBy (W'.setCell ⟨sb + 2, 3, none⟩ (.slice va' (l ++ [r]).length vc')) (some (sb + 2)) := grown_set (World.grownBy.refl W' _) (.inl rfl) _
  have hb : Below w.heap.size w W' := h.bel.grown hg h.bel.size (fun k e => by have := hbs _ e; omega)
  exact ⟨va', vc', W', hr, hB3, hb, hB7, hB3.grown hgs (fun e => by injection e with e; omega), hB6.grown hgs (fun e => by injection e with e; omega), hB7.set 3 _, World.ownsRow.kept hO hgs (.inr fun e => by have := hbs' _ e; omega), hb.setCell (p := ⟨sb + 2, 3, none⟩) (by show w.heap.size ≤ sb + 2; omega) _, Nat.le_trans (Nat.le_trans h.b4 hg.size) hgs.size⟩
end
/-- what without hands back. -/
def WoPost (s : St) (a : Option Addr) (n c : Nat) (l : List Rul) (w : World) (e : Ending) (w' : World) : Prop :=
  ∃ va vc, e = .returned (.agg (liC s a n c va l.length vc).toArray) ∧ RuS w' va l.length vc l ∧ Below w.heap.size w w'

set_option maxRecDepth 100000 in
set_option maxHeartbeats 20000000 in
theorem without_any (s : St) (a : Option Addr) (n c : Nat) (ra : Option Addr) (rn rc : Nat) (rs : List Rul) (o : Int) (w : World) (HR : RuS w ra rn rc rs) (hrn : rn ≤ 1000) :
    Calls Tryz.prog 27 #[.agg (liC s a n c ra rn rc).toArray, .int .i64 o, .int .i64 o] w (WoPost s a n c (wo rs o) w) := by
  have hrl := HR.len
  have HR' := Lib.hid HR
  clear HR
  obtain ⟨sb, hsb⟩ : ∃ sb, Hid (w.heap.size = sb) := ⟨_, rfl⟩
  obtain ⟨X, hX⟩ : ∃ X, Hid (X = WoPost s a n c (wo rs o) w) := ⟨_, rfl⟩
  have hfin : Hid (∀ W va vc, RuS W va (wo rs o).length vc (wo rs o) → Below w.heap.size w W → X (.returned (.agg (liC s a n c va (wo rs o).length vc).toArray)) W) := fun W va vc h1 h2 => by rw [hX.out]; exact ⟨va, vc, rfl, h1, h2⟩
  rw [← hX.out]
  clear hX
  obtain ⟨W0, hW0⟩ : ∃ W0, Hid ((w.alloc (.cells #[.int .i64 s.id, .int .i64 s.priv, .slice a n c, .slice ra rn rc] 27)).alloc (.cells #[.int .i64 0, .int .i64 0, .slice none 0 0, .slice none 0 0] 27) = W0) := ⟨_, rfl⟩
  have hB3 : Hid (Blk W0 sb 27 (liC s a n c ra rn rc)) := by rw [← hW0.out, ← hsb.out]; exact (Blk.new w _ (liC s a n c ra rn rc)).alloc _
  have hB6 : Hid (Blk W0 (sb + 1) 27 zrW) := by
    rw [← hW0.out, ← hsb.out]
    have := Blk.new (w.alloc (.cells #[.int .i64 s.id, .int .i64 s.priv, .slice a n c, .slice ra rn rc] 27)) 27 zrW
    rwa [World.size_alloc] at this
  have hsz0 : Hid (W0.heap.size = sb + 2) := by show _ = _; rw [← hW0.out, ← hsb.out]; simp
  have hb0 : Hid (Below w.heap.size w W0) := by rw [← hW0.out]; exact ((Below.refl _ w).alloc (Nat.le_refl _) _).alloc (by simp) _
  have hB7 := Blk.new W0 27 zrW
  rw [hsz0.out] at hB7
  obtain ⟨W3, hP⟩ := put_row (ty := 27) (x := liC s a n c none 0 0) hB7 rfl sizeLi (li_one _ _ _ _ _ _ _ _)
  have hal : Below W0.heap.size W0 (W0.alloc (.cells zrW.toArray 27)) := (Below.refl _ W0).alloc (Nat.le_refl _) _
  have hst := below_grown hal hP.grown hal.size (by rw [hsz0.out]; exact Nat.le_refl _)
  have hsz3 : sb + 3 ≤ W3.heap.size := hP.blk.lt
  have hI0 : Hid (WoI w W3 sb s a n c ra rn rc none 0 [] W3) := ⟨hB3.out.below hst hB3.out.lt, hB6.out.below hst hB6.out.lt, hP.blk, OwnU.nil _ _, hb0.out.trans (hst.mono hb0.out.size), Nat.le_refl _⟩
  have hP' := Lib.hid hP
  have l0 := hB3.out.at_ (i := 0) rfl
  have l1 := hB3.out.at_ (i := 1) rfl
  have l2 := hB3.out.at_ (i := 2) rfl
  clear hP hst hal hB7 hB3 hB6 hb0
  unfold liC at *
  go_enter Tryz.func27, Tryz.ntmps27
  go_upto_region 1 with fail
  rw [hsb.out]
  generalize hWq : (w.alloc _).alloc _ = Wq
  obtain rfl : W0 = Wq := by rw [← hWq]; exact hW0.out.symm
  clear hWq hW0
  have hs2 := hsz0.out
  go_upto_region 2 with (first
    | (refine wpList_store_mid (by rfl) 27 _ _ (by rfl) (sb + 2) 0 [.int .i64 s.id, .int .i64 s.priv, .slice a n c, .slice none 0 0].toArray (by rfl) (by rfl) hP'.out.there hP'.out.info (by simpa using hP'.out.one) ?_
       generalize hWq : World.setCells _ _ _ _ = Wa
       obtain rfl : W3 = Wa := by rw [← hWq]; exact hP'.out.eq
       clear hWq))
  clear hP' hs2 l0 l1 l2
  go_wp2_with fail
  go_loopw [8] (fun i wr => ∃ (k : Nat) (va : Option Addr) (vc : Nat), k ≤ rn ∧ i = .int .i64 k ∧ Hid (WoI w W3 sb s a n c ra rn rc va vc (wo (rs.take k) o) wr)) (fun i _ => rn - (intOf i).toNat)
  case atStart => exact ⟨0, none, 0, Nat.zero_le _, rfl, hI0⟩
  case round =>
    obtain ⟨k, va, vc, hk, rfl, hI⟩ := hrel
    clear hI0
    have l3 := hI.out.b3.at_ (i := 3) rfl
    by_cases hlt : k < rn
    · have hkl : k < rs.length := by omega
      obtain ⟨x, hx⟩ : ∃ x, rs[k]? = some x := ⟨_, List.getElem?_eq_getElem hkl⟩
      obtain ⟨b, off, rfl, hbl, e0, e1, e2⟩ := (HR'.out.below hI.out.bel).at hx
      have hrd : Hid (∀ W, Below w.heap.size w W → W.cell? ⟨b, off + k * 3, none⟩ = some (.int .i64 x.dev) ∧ W.cell? ⟨b, off + k * 3 + 1, none⟩ = some (.int .i64 x.kind) ∧ W.cell? ⟨b, off + k * 3 + 2, none⟩ = some (.int .i64 x.n)) := fun W hW => by
        obtain ⟨b', off', hq, _, f0, f1, f2⟩ := (HR'.out.below hW).at hx
        cases hq
        exact ⟨f0, f1, f2⟩
      have hst := Lib.hid (Sto.wo_step o hx)
      have k0 : (0 : Int) ≤ (k : Int) := by omega
      have k1 : (k : Int) < (rn : Int) := by omega
      have kw : IntKind.i64.wrap ((k : Int) + 1) = (k : Int) + 1 := IntWalk.i64_in _ (by omega)
      have hll : (wo (rs.take k) o).length ≤ 1000 := by
        have := (Sto.wo_sub (rs := rs.take k) (o := o)).1
        rw [List.length_take] at this; omega
      clear hx
      obtain ⟨l, hl⟩ : ∃ l, Hid (wo (rs.take k) o = l) := ⟨_, rfl⟩
      rw [hl.out] at hI hst hll
      by_cases hd : x.dev = o
      · have g1 : (x.dev != o) = false := by simpa using hd
        have hI2 : Hid (WoI w W3 sb s a n c (some ⟨b, off, none⟩) rn rc va vc (wo (rs.take (k + 1)) o) wr) := by rw [hst.out, if_pos hd]; exact hI
        clear hd hst hrd hI
        go_wp2_with fail
        go_roundw
        case rel => exact ⟨k + 1, va, vc, by omega, by go_num, hI2⟩
        case measure => simp [intOf]; omega
      · have g1 : (x.dev != o) = true := by simpa using hd
        obtain ⟨l2, hl2⟩ : ∃ q, Hid (l ++ [x] = q) := ⟨_, rfl⟩
        have hw2 : Hid (wo (rs.take (k + 1)) o = l2) := by show _ = _; rw [hst.out, if_neg hd]; exact hl2.out
        clear hd hst
        go_upto_region 6 with fail
        have hI1 := Lib.hid (hI.out.below (Below.refl _ wr).drew)
        clear hI e0 e1 e2 l3 hl
        generalize hWd : wr.drew = W0' at *
        have hS0 : Blk W0' sb 27 (liC s a n c (some ⟨b, off, none⟩) rn rc) ∧ Below w.heap.size w W0' := ⟨hI1.out.b3, hI1.out.bel⟩
        refine wp_region_held_drew (S := fun wz => Blk wz sb 27 (liC s a n c (some ⟨b, off, none⟩) rn rc) ∧ Below w.heap.size w wz) (by kernel_rfl) (by rw [hWd]; exact hS0) (fun hHeld => ?_)
        rw [hWd] at hHeld ⊢
        refine wpAnyH_take (i := 0) (oi := { dst := some 37, op := Op.fieldAddr 27 (Operand.tmp 7) 1, type := 0, pos := "law.go:89", after := #[], guard := none }) (v := ?_) rfl (by kernel_rfl) (by kernel_rfl) (by kernel_rfl) (fun _ _ _ h => h) (Or.inl ⟨by rfl, ?_⟩) hHeld ?_
        rotate_left
        · intro wz hSw
          go_simp
          all_goals (with_reducible rfl)
        try simp only [Act.put, List.setIfInBounds_toArray, List.set_cons_zero, List.set_cons_succ]
        refine wpAnyH_take (i := 2) (oi := { dst := some 39, op := Op.fieldAddr 27 (Operand.tmp 3) 1, type := 0, pos := "law.go:89", after := #[], guard := none }) (v := ?_) rfl (by kernel_rfl) (by kernel_rfl) (by kernel_rfl) (fun _ _ _ h => h) (Or.inl ⟨by rfl, ?_⟩) hHeld ?_
        rotate_left
        · intro wz hSw
          go_simp
          all_goals (with_reducible rfl)
        try simp only [Act.put, List.setIfInBounds_toArray, List.set_cons_zero, List.set_cons_succ]
        refine wpAnyH_take (i := 3) (oi := { dst := some 40, op := Op.load 25 (Operand.tmp 39), type := 25, pos := "law.go:89", after := #[{ on := 2, ground := Ground.data }], guard := none }) (v := ?_) rfl (by kernel_rfl) (by kernel_rfl) (by kernel_rfl) (fun _ _ _ h => h) (Or.inl ⟨by rfl, ?_⟩) hHeld ?_
        rotate_left
        · intro wz hSw
          have q3 := hSw.1.at_ (i := 3) rfl
          go_simp
          all_goals (with_reducible rfl)
        try simp only [Act.put, List.setIfInBounds_toArray, List.set_cons_zero, List.set_cons_succ]
        refine wpAnyH_take (i := 4) (oi := { dst := some 41, op := Op.move (Operand.tmp 8), type := 3, pos := "law.go:89", after := #[], guard := none }) (v := ?_) rfl (by kernel_rfl) (by kernel_rfl) (by kernel_rfl) (fun _ _ _ h => h) (Or.inl ⟨by rfl, ?_⟩) hHeld ?_
        rotate_left
        · intro wz hSw
          go_simp
          all_goals (with_reducible rfl)
        try simp only [Act.put, List.setIfInBounds_toArray, List.set_cons_zero, List.set_cons_succ]
        refine wpAnyH_take (i := 5) (oi := { dst := some 42, op := Op.indexAddr 25 (Operand.tmp 40) (Operand.tmp 41), type := 0, pos := "law.go:89", after := #[{ on := 3, ground := Ground.data }, { on := 4, ground := Ground.data }], guard := none }) (v := ?_) rfl (by kernel_rfl) (by kernel_rfl) (by kernel_rfl) (fun _ _ _ h => h) (Or.inl ⟨by rfl, ?_⟩) hHeld ?_
        rotate_left
        · intro wz hSw
          go_simp
          all_goals (with_reducible rfl)
        try simp only [Act.put, List.setIfInBounds_toArray, List.set_cons_zero, List.set_cons_succ]
        refine wpAnyH_take (i := 6) (oi := { dst := some 43, op := Op.load 72 (Operand.tmp 42), type := 72, pos := "law.go:89", after := #[{ on := 5, ground := Ground.data }], guard := none }) (v := ?_) rfl (by kernel_rfl) (by kernel_rfl) (by kernel_rfl) (fun _ _ _ h => h) (Or.inl ⟨by rfl, ?_⟩) hHeld ?_
        rotate_left
        · intro wz hSw
          obtain ⟨f0, f1, f2⟩ := hrd.out _ hSw.2
          go_simp
          all_goals (with_reducible rfl)
        try simp only [Act.put, List.setIfInBounds_toArray, List.set_cons_zero, List.set_cons_succ]
        refine wpAnyH_ready (rs := [1, 7]) (by kernel_rfl) (by simp) ?_
        refine AllReadyH.cons (o := { dst := some 38, op := Op.load 25 (Operand.tmp 37), type := 25, pos := "law.go:89", after := #[{ on := 0, ground := Ground.data }], guard := none }) rfl (fun K hK => ?_) ?_
        · rw [if_pos (by rfl)]
          show Oper.wp _ _ _ _ K _
          have c7 := hI1.out.b7.at_ (i := 3) rfl
          go_simp
          refine hK.out _ _ hHeld (fun hHeld => ?_)
          clear hK K c7
          try simp only [Act.put, List.setIfInBounds_toArray, List.set_cons_zero, List.set_cons_succ]
          refine wpAnyH_ready (rs := [7]) (by kernel_rfl) (by simp) ?_
          refine AllReadyH.cons (o := { dst := some 44, op := Op.buildSlice 25 1 #[(0, Operand.tmp 43)], type := 25, pos := "law.go:89", after := #[{ on := 6, ground := Ground.data }], guard := none }) rfl (fun K hK => ?_) AllReadyH.nil
          rw [if_pos (by rfl)]
          show Oper.wp _ _ _ _ K _
          go_simp
          have hal : Below W0'.heap.size W0' (W0'.alloc (.cells (ruC x).toArray 72)) := (Below.refl _ W0').alloc (Nat.le_refl _) _
          have hI2 := Lib.hid (hI1.out.below hal)
          obtain ⟨va', vc', W2, hr, hB3, hb2, hB7, hI3⟩ := hI1.out.app hsz3 hsb.out x (by omega)
          rw [hl2.out] at hr hI3
          have hr' := Lib.hid hr
          have hI3 : Hid (WoI w W3 sb s a n c (some ⟨b, off, none⟩) rn rc va' vc' (wo (rs.take (k + 1)) o) (W2.setCell ⟨sb + 2, 3, none⟩ (.slice va' l2.length vc'))) := by rw [hw2.out]; exact hI3
          clear hr
          unfold ruC at hal hI2 hr'
          refine hK.out _ _ ⟨hI2.out.b3, hI2.out.bel⟩ (fun hHeld => ?_)
          clear hK K
          try simp only [Act.put, List.setIfInBounds_toArray, List.set_cons_zero, List.set_cons_succ]
          generalize hWn : W0'.alloc _ = W1 at *
          refine wpAnyH_ready (rs := [8]) (by kernel_rfl) (by simp) ?_
          refine AllReadyH.cons (o := { dst := some 45, op := Op.call { callee := Callee.builtin Builtin.append, args := #[Operand.tmp 38, Operand.tmp 44], argTypes := #[25, 25] }, type := 25, pos := "law.go:89", after := #[{ on := 1, ground := Ground.data }, { on := 7, ground := Ground.data }], guard := none }) rfl (fun K hK => ?_) AllReadyH.nil
          refine step_append_run rfl _ _ 25 25 rfl _ _ (by simp [Act.eval]) (by simp [Act.eval]) _ _ (hr'.out _) ?_
          refine hK.out _ _ ⟨hB3, hb2⟩ (fun hHeld => ?_)
          clear hK K
          try simp only [Act.put, List.setIfInBounds_toArray, List.set_cons_zero, List.set_cons_succ]
          refine wpAnyH_take (i := 9) (oi := { dst := some 46, op := Op.fieldAddr 27 (Operand.tmp 7) 1, type := 0, pos := "law.go:89", after := #[{ on := 0, ground := Ground.phase }, { on := 1, ground := Ground.phase }, { on := 2, ground := Ground.phase }, { on := 3, ground := Ground.phase }, { on := 4, ground := Ground.phase }, { on := 5, ground := Ground.phase }, { on := 6, ground := Ground.phase }, { on := 7, ground := Ground.phase }, { on := 8, ground := Ground.phase }], guard := none }) (v := ?_) rfl (by kernel_rfl) (by kernel_rfl) (by kernel_rfl) (fun _ _ _ h => h) (Or.inl ⟨by rfl, ?_⟩) hHeld ?_
          rotate_left
          · intro wz hSw
            go_simp
            all_goals (with_reducible rfl)
          try simp only [Act.put, List.setIfInBounds_toArray, List.set_cons_zero, List.set_cons_succ]
          refine wpAnyH_ready (rs := [10]) (by kernel_rfl) (by simp) ?_
          refine AllReadyH.cons (o := { dst := none, op := Op.store 25 (Operand.tmp 46) (Operand.tmp 45), type := 0, pos := "law.go:89", after := #[{ on := 9, ground := Ground.data }, { on := 8, ground := Ground.data }, { on := 8, ground := Ground.chain }, { on := 0, ground := Ground.phase }, { on := 1, ground := Ground.phase }, { on := 2, ground := Ground.phase }, { on := 3, ground := Ground.phase }, { on := 4, ground := Ground.phase }, { on := 5, ground := Ground.phase }, { on := 6, ground := Ground.phase }, { on := 7, ground := Ground.phase }, { on := 8, ground := Ground.phase }], guard := none }) rfl (fun K hK => ?_) AllReadyH.nil
          rw [if_pos (by rfl)]
          show Oper.wp _ _ _ _ K _
          have c7 := hB7.at_ (i := 3) rfl
          have d7 := hB7.frozen 3
          go_simp
          refine hK.out _ _ ⟨hI3.out.b3, hI3.out.bel⟩ (fun hHeld => ?_)
          clear hK K c7 d7
          try simp only [Act.put, List.setIfInBounds_toArray, List.set_cons_zero, List.set_cons_succ]
          refine wpAnyH_done (by kernel_rfl) ?_ _
          go_wp2_with fail
          go_roundw
          case rel => exact ⟨k + 1, va', vc', by omega, by go_num, hI3⟩
          case measure => simp [intOf]; omega
        refine AllReadyH.cons (o := { dst := some 44, op := Op.buildSlice 25 1 #[(0, Operand.tmp 43)], type := 25, pos := "law.go:89", after := #[{ on := 6, ground := Ground.data }], guard := none }) rfl (fun K hK => ?_) AllReadyH.nil
        rw [if_pos (by rfl)]
        show Oper.wp _ _ _ _ K _
        go_simp
        have hal : Below W0'.heap.size W0' (W0'.alloc (.cells (ruC x).toArray 72)) := (Below.refl _ W0').alloc (Nat.le_refl _) _
        have hI2 := Lib.hid (hI1.out.below hal)
        obtain ⟨va', vc', W2, hr, hB3, hb2, hB7, hI3⟩ := hI1.out.app hsz3 hsb.out x (by omega)
        rw [hl2.out] at hr hI3
        have hr' := Lib.hid hr
        have hI3 : Hid (WoI w W3 sb s a n c (some ⟨b, off, none⟩) rn rc va' vc' (wo (rs.take (k + 1)) o) (W2.setCell ⟨sb + 2, 3, none⟩ (.slice va' l2.length vc'))) := by rw [hw2.out]; exact hI3
        clear hr
        unfold ruC at hal hI2 hr'
        refine hK.out _ _ ⟨hI2.out.b3, hI2.out.bel⟩ (fun hHeld => ?_)
        clear hK K
        try simp only [Act.put, List.setIfInBounds_toArray, List.set_cons_zero, List.set_cons_succ]
        generalize hWn : W0'.alloc _ = W1 at *
        refine wpAnyH_ready (rs := [1]) (by kernel_rfl) (by simp) ?_
        refine AllReadyH.cons (o := { dst := some 38, op := Op.load 25 (Operand.tmp 37), type := 25, pos := "law.go:89", after := #[{ on := 0, ground := Ground.data }], guard := none }) rfl (fun K hK => ?_) AllReadyH.nil
        rw [if_pos (by rfl)]
        show Oper.wp _ _ _ _ K _
        have c7 := hI2.out.b7.at_ (i := 3) rfl
        go_simp
        refine hK.out _ _ hHeld (fun hHeld => ?_)
        clear hK K c7
        try simp only [Act.put, List.setIfInBounds_toArray, List.set_cons_zero, List.set_cons_succ]
        refine wpAnyH_ready (rs := [8]) (by kernel_rfl) (by simp) ?_
        refine AllReadyH.cons (o := { dst := some 45, op := Op.call { callee := Callee.builtin Builtin.append, args := #[Operand.tmp 38, Operand.tmp 44], argTypes := #[25, 25] }, type := 25, pos := "law.go:89", after := #[{ on := 1, ground := Ground.data }, { on := 7, ground := Ground.data }], guard := none }) rfl (fun K hK => ?_) AllReadyH.nil
        refine step_append_run rfl _ _ 25 25 rfl _ _ (by simp [Act.eval]) (by simp [Act.eval]) _ _ (hr'.out _) ?_
        refine hK.out _ _ ⟨hB3, hb2⟩ (fun hHeld => ?_)
        clear hK K
        try simp only [Act.put, List.setIfInBounds_toArray, List.set_cons_zero, List.set_cons_succ]
        refine wpAnyH_take (i := 9) (oi := { dst := some 46, op := Op.fieldAddr 27 (Operand.tmp 7) 1, type := 0, pos := "law.go:89", after := #[{ on := 0, ground := Ground.phase }, { on := 1, ground := Ground.phase }, { on := 2, ground := Ground.phase }, { on := 3, ground := Ground.phase }, { on := 4, ground := Ground.phase }, { on := 5, ground := Ground.phase }, { on := 6, ground := Ground.phase }, { on := 7, ground := Ground.phase }, { on := 8, ground := Ground.phase }], guard := none }) (v := ?_) rfl (by kernel_rfl) (by kernel_rfl) (by kernel_rfl) (fun _ _ _ h => h) (Or.inl ⟨by rfl, ?_⟩) hHeld ?_
        rotate_left
        · intro wz hSw
          go_simp
          all_goals (with_reducible rfl)
        try simp only [Act.put, List.setIfInBounds_toArray, List.set_cons_zero, List.set_cons_succ]
        refine wpAnyH_ready (rs := [10]) (by kernel_rfl) (by simp) ?_
        refine AllReadyH.cons (o := { dst := none, op := Op.store 25 (Operand.tmp 46) (Operand.tmp 45), type := 0, pos := "law.go:89", after := #[{ on := 9, ground := Ground.data }, { on := 8, ground := Ground.data }, { on := 8, ground := Ground.chain }, { on := 0, ground := Ground.phase }, { on := 1, ground := Ground.phase }, { on := 2, ground := Ground.phase }, { on := 3, ground := Ground.phase }, { on := 4, ground := Ground.phase }, { on := 5, ground := Ground.phase }, { on := 6, ground := Ground.phase }, { on := 7, ground := Ground.phase }, { on := 8, ground := Ground.phase }], guard := none }) rfl (fun K hK => ?_) AllReadyH.nil
        rw [if_pos (by rfl)]
        show Oper.wp _ _ _ _ K _
        have c7 := hB7.at_ (i := 3) rfl
        have d7 := hB7.frozen 3
        go_simp
        refine hK.out _ _ ⟨hI3.out.b3, hI3.out.bel⟩ (fun hHeld => ?_)
        clear hK K c7 d7
        try simp only [Act.put, List.setIfInBounds_toArray, List.set_cons_zero, List.set_cons_succ]
        refine wpAnyH_done (by kernel_rfl) ?_ _
        go_wp2_with fail
        go_roundw
        case rel => exact ⟨k + 1, va', vc', by omega, by go_num, hI3⟩
        case measure => simp [intOf]; omega
    · obtain rfl : k = rn := by omega
      rw [List.take_of_length_le (by omega)] at hI
      obtain ⟨l, hl⟩ : ∃ l, Hid (wo rs o = l) := ⟨_, rfl⟩
      rw [hl.out] at hI hfin
      have y0 := hI.out.b7.at_ (i := 0) rfl
      have y1 := hI.out.b7.at_ (i := 1) rfl
      have y2 := hI.out.b7.at_ (i := 2) rfl
      have y3 := hI.out.b7.at_ (i := 3) rfl
      obtain ⟨W9, hP⟩ := put_row (ty := 27) (x := liC s a n c va l.length vc) hI.out.b6 rfl sizeLi (li_one _ _ _ _ _ _ _ _)
      have hP' := Lib.hid hP
      have hown9 : OwnU W3 W9 (.slice va l.length vc) l := World.ownsRow.kept hI.out.own hP.grown (.inr fun e => by have := (World.ownsRow.lt hI.out.own _ e).1; omega)
      have hR9 : RuS W9 va l.length vc l := by
        obtain ⟨a', c', e, hR⟩ := hown9.rus
        injection e with e1 _ e2
        rw [e1, e2]; exact hR
      have hb9 : Below w.heap.size w W9 := below_grown hI.out.bel hP.grown hI.out.bel.size (by rw [hsb.out]; omega)
      have hf := Lib.hid (hfin.out W9 va vc hR9 hb9)
      have hbk := Lib.hid hP.blk
      unfold liC at hP'
      clear hP hI hfin hl hown9
      go_wp2_with (first
        | (refine wpList_store_mid (by rfl) 27 _ _ (by rfl) (sb + 1) 0 [.int .i64 s.id, .int .i64 s.priv, .slice a n c, .slice va l.length vc].toArray (by rfl) (by rfl) hP'.out.there hP'.out.info (by simpa using hP'.out.one) ?_
           generalize hWq : World.setCells _ _ _ _ = Wa
           obtain rfl : W9 = Wa := by rw [← hWq]; exact hP'.out.eq
           clear hWq))
      exact ret_cell (fn := Tryz.f27) (p := 6) rfl hbk.out Tryz.underlying27 rfl sizeLi rfl rfl hf.out
end Go.Proofs.YtiionehcmoginaaGreatDoor
