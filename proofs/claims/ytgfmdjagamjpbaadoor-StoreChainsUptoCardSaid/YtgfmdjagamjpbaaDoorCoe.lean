/- codec: Check, the writer's functions -/
import Derived.Test.YtgfmdjagamjpbaaDoorCod
import Derived.Deep.RegionLaw
import Derived.Deep.RegionHeld3
import Derived.Lib.AppendStr
namespace Go
/-- append to an owned row, inside a drawn region. -/
theorem step_append_own {P : Program} {ops : Array Oper} {o : Oper} {a : Act} {w : World} {K : Act → World → Prop} {Q : Exit → Act → World → Prop} {E : Prop}
    (hg : o.guard = none) (s x : Operand) (t : TypeId) (hop : o.op = Op.call { callee := Callee.builtin Builtin.append, args := #[s, x], argTypes := #[t, t] })
    (e : TypeId) (i : TypeInfo) (z : Value) (size bytes : Nat) (h1 : P.underlying t = some (.slice e)) (h2 : P.info? e = some i) (h3 : i.zero = some z) (h4 : i.size = size) (h5 : i.bytes = bytes) (h6 : z.cells.size = size) (h7 : 0 < size)
    (B : Nat) (v : Value) (n : Nat) (xs : List Value) (hs : a.eval s = v) (hown : w.ownsRow B e size v n xs)
    (ad : Addr) (m c : Nat) (news : List Value) (hx : a.eval x = .slice (some ad) m c) (hn : news.length = m * size) (hc : ∀ j u, news[j]? = some u → w.cell? (ad.add j) = some u) (h1c : ∀ u ∈ news, u.oneCell' = true)
    (b1 : n + m ≤ maxLen) (b2 : (n + m) * bytes ≤ 140737488355328) (hB : B ≤ w.heap.size)
    (hK : ∀ v' w', w'.ownsRow B e size v' (n + m) (xs ++ news) → w.grownBy w' v.ownBlock → (v'.ownBlock = v.ownBlock ∨ v'.ownBlock = some w.heap.size) → K (a.put o.dst v') w') :
    if Region.wanted o (yielded ops a.tmps) = true then Oper.wp P o a w K Q else E := by
  have hw : Region.wanted o (yielded ops a.tmps) = true := by simp [Region.wanted, hg]
  rw [if_pos hw]
  obtain ⟨v', w', hrun, r1, r2, _, r4⟩ := run_append_own_at (P := P) (w := w) B t o.type e i z size bytes h1 h2 h3 h4 h5 h6 h7 v n xs hown ad m c news hn hc h1c b1 b2 hB
  unfold Oper.wp
  simp [execOp, hop, resolve, invoke, builtin, hs, hx, hrun, Result.andThen]
  exact hK v' w' r1 r2 r4
/-- .. of a string. -/
theorem step_append_ownS {P : Program} {ops : Array Oper} {o : Oper} {a : Act} {w : World} {K : Act → World → Prop} {Q : Exit → Act → World → Prop} {E : Prop}
    (hg : o.guard = none) (s x : Operand) (t u : TypeId) (hop : o.op = Op.call { callee := Callee.builtin Builtin.append, args := #[s, x], argTypes := #[t, u] })
    (e : TypeId) (i : TypeInfo) (h1 : P.underlying t = some (.slice e)) (hu : P.underlying u = some .string) (h2 : P.info? e = some i) (h3 : i.zero = some (.int .u8 0)) (h4 : i.size = 1) (h5 : i.bytes = 1)
    (B : Nat) (v : Value) (n : Nat) (xs : List Value) (hs : a.eval s = v) (hown : w.ownsRow B e 1 v n xs)
    (txt : ByteArray) (hx : a.eval x = .string txt)
    (b1 : n + txt.size ≤ maxLen) (b2 : n + txt.size ≤ 140737488355328) (hB : B ≤ w.heap.size)
    (hK : ∀ v' w', w'.ownsRow B e 1 v' (n + txt.size) (xs ++ Lib.strCells txt) → w.grownBy w' v.ownBlock → K (a.put o.dst v') w') :
    if Region.wanted o (yielded ops a.tmps) = true then Oper.wp P o a w K Q else E := by
  have hw : Region.wanted o (yielded ops a.tmps) = true := by simp [Region.wanted, hg]
  rw [if_pos hw]
  obtain ⟨v', w', hrun, r1, r2, _⟩ := Lib.run_append_own_string (P := P) (w := w) B t u o.type e i h1 hu h2 h3 h4 h5 v n xs hown txt b1 b2 hB
  unfold Oper.wp
  simp [execOp, hop, resolve, invoke, builtin, hs, hx, hrun, Result.andThen]
  exact hK v' w' r1 r2
theorem World.ownsRow.own {w : World} {B : Nat} {e : TypeId} {s : Nat} {v : Value} {n : Nat} {xs : List Value} (h : w.ownsRow B e s v n xs) : ∀ k, v.ownBlock = some k → B ≤ k ∧ k < w.heap.size := by
  intro k hk
  rcases h.2 with ⟨rfl, _⟩ | ⟨g, cap, cur, rfl, hbg, hg, _⟩
  · cases hk
  · cases hk
    exact ⟨hbg, (Array.getElem?_eq_some_iff.1 hg).1⟩
end Go

namespace Go.Proofs.YtgfmdjagamjpbaaDoor
open Go.RowKit Go.Mem

theorem Grw.below {B : Nat} {w w' : World} {v v' : Value} (h : Grw w v w' v') (hv : ∀ k, v.ownBlock = some k → B ≤ k) (hB : B ≤ w.heap.size) : Below B w w' := (Below.refl B w).grown h.1 hB hv
theorem Grw.appB {w wd w1 : World} {v v' : Value} (hb : Below w.heap.size w wd) (hg : wd.grownBy w1 v.ownBlock) (hat : v'.ownBlock = v.ownBlock ∨ v'.ownBlock = some wd.heap.size) : Grw w v w1 v' :=
  ((Grw.refl w v).quiet hb).trans ⟨hg, fun k hk => by
    rcases hat with h | h
    · exact .inl (h ▸ hk)
    · rw [h] at hk; cases hk; exact .inr (Nat.le_refl _)⟩

set_option maxHeartbeats 400000 in
theorem codecCheck_any (b n c : Nat) (l : List FV) (w : World) (H : FS w b n c l) : Calls Tryd.prog 44 #[.agg #[.int .i64 3, .int .i64 0, .string ⟨#[]⟩, .slice (some ⟨b, 0, none⟩) n c]] w fun e w' => e = .returned (.int .i64 0) ∧ Below w.heap.size w w' := by
  have H' := Lib.hid H
  have hb0 := Lib.hid ((Below.refl w.heap.size w).alloc (Nat.le_refl _) (.cells #[.int .i64 3, .int .i64 0, .string ⟨#[]⟩, .slice (some ⟨b, 0, none⟩) n c] 67))
  have hf := Lib.hid (formedL_any b n c l _ (H.below hb0.out))
  clear H
  go_enter Tryd.func44, Tryd.ntmps44
  go_wp2_with fail
  refine hf.out.mono ?_
  rintro e w1 ⟨rfl, hb1⟩
  go_wp2_with fail
  go_ret
  exact ⟨rfl, hb0.out.trans (hb1.mono hb0.out.size)⟩

/-- what came of an owned buffer: all below the bound is as it was. -/
def OwnsB (B : Nat) (n : Nat) (xs : List Nat) (w : World) (e : Ending) (w' : World) : Prop := ∃ v', e = .returned v' ∧ w'.ownsRow B 5 1 v' n (bv xs) ∧ Below B w w'

/-- the box of the value stays. -/
structure EncW (w wz : World) (tb : Nat) (cs : List Value) : Prop where
  blk : Blk wz tb 67 cs
  size : w.heap.size ≤ wz.heap.size
section
variable {w wz wq : World} {tb i : Nat} {u : Value} {cs : List Value}
theorem EncW.mk' (hc : cs[i]? = some u) (h : EncW w wz tb cs) : wz.cell? ⟨tb, i, none⟩ = some u ∧ EncW w wz tb cs := ⟨h.blk.at_ hc, h⟩
theorem EncW.alloc (h : EncW w wz tb cs) (o : Obj) : EncW w (wz.alloc o) tb cs := ⟨h.blk.alloc o, Nat.le_trans h.size (by simp)⟩
theorem EncW.drew (h : EncW w wz tb cs) : EncW w wz.drew tb cs := ⟨h.blk, h.size⟩
theorem EncW.grown {r : Option Nat} (h : EncW w wz tb cs) (hg : wz.grownBy wq r) (hr : ∀ k, r = some k → tb ≠ k) : EncW w wq tb cs := ⟨h.blk.grown hg (fun e => hr tb e.symm rfl), Nat.le_trans h.size hg.size⟩
theorem EncW.apart {v v' : Value} (h : EncW w wz tb cs) (hto : ∀ k, v.ownBlock = some k → tb ≠ k) (hat : v'.ownBlock = v.ownBlock ∨ v'.ownBlock = some wz.heap.size) : ∀ k, v'.ownBlock = some k → tb ≠ k := fun k hk => by
  rcases hat with e | e
  · exact hto k (e ▸ hk)
  · rw [e] at hk
    cases hk
    exact Nat.ne_of_lt h.blk.lt
theorem EncW.allocB (h : wz.cell? ⟨tb, i, none⟩ = some u ∧ EncW w wz tb cs) (o : Obj) : (wz.alloc o).cell? ⟨tb, i, none⟩ = some u ∧ EncW w (wz.alloc o) tb cs := ⟨((Below.refl _ wz).alloc (Nat.le_refl _) o).cell (p := ⟨tb, i, none⟩) h.2.blk.lt |>.trans h.1, h.2.alloc o⟩
theorem EncW.drewB (h : wz.cell? ⟨tb, i, none⟩ = some u ∧ EncW w wz tb cs) : wz.drew.cell? ⟨tb, i, none⟩ = some u ∧ EncW w wz.drew tb cs := ⟨h.1, h.2.drew⟩
end

set_option maxRecDepth 20000 in
set_option maxHeartbeats 2000000 in
theorem writeI_any (B : Nat) (v : Value) (n : Nat) (m : Int) (hm : I64 m) (xs : List Nat) (w : World) (hown : w.ownsRow B 5 1 v n (bv xs)) (hB : B ≤ w.heap.size) (hn : n ≤ 900000000) :
    Calls Tryd.prog 64 #[v, .agg (fvC (.int m)).toArray] w (OwnsB B (n + (encF (.int m)).length) (xs ++ encF (.int m)) w) := by
  obtain ⟨i0, hi, hz0, hz1, hz2⟩ := info_parts infoB
  have hun := Lib.hid (unsigned_any m hm)
  have hz64 := (zigN_eq m).2
  have hlt := hown.own
  obtain ⟨tb, htb⟩ : ∃ tb, Hid (w.heap.size = tb) := ⟨_, rfl⟩
  have hB1 : EncW w (w.alloc (.cells (fvC (.int m)).toArray 67)) tb (fvC (.int m)) := ⟨htb.out ▸ Blk.new w _ _, by simp⟩
  simp only [fvC] at hB1 ⊢
  have ho1 : Hid (∀ o, ((w.alloc (.cells #[.int .i64 1, .int .i64 m, .string ⟨#[]⟩, .slice none 0 0] 67)).drew.alloc o).ownsRow B 5 1 v n (bv xs)) := fun o => World.ownsRow.alloc (hown.alloc _) _
  have hbw : Hid (∀ o, Below w.heap.size w ((w.alloc (.cells #[.int .i64 1, .int .i64 m, .string ⟨#[]⟩, .slice none 0 0] 67)).drew.alloc o)) := fun o => ((Below.refl _ w).alloc (Nat.le_refl _) _).drew.alloc (by simp) o
  have hsz : Hid (∀ o, w.heap.size ≤ ((w.alloc (.cells #[.int .i64 1, .int .i64 m, .string ⟨#[]⟩, .slice none 0 0] 67)).drew.alloc o).heap.size) := fun o => (hbw.out o).size
  have hcn : Hid (∀ j u, [Value.int .u8 1][j]? = some u → (((w.alloc (.cells #[.int .i64 1, .int .i64 m, .string ⟨#[]⟩, .slice none 0 0] 67)).alloc (.cells #[.int .u8 1] 5)).drew).cell? ((⟨w.heap.size + 1, 0, none⟩ : Addr).add j) = some u) := by
    have h := cell_one_new (w.alloc (.cells #[.int .i64 1, .int .i64 m, .string ⟨#[]⟩, .slice none 0 0] 67)) (.int .u8 1) 5
    rw [show (w.alloc (.cells #[.int .i64 1, .int .i64 m, .string ⟨#[]⟩, .slice none 0 0] 67)).heap.size = w.heap.size + 1 by simp] at h
    exact h
  have hto : Hid (∀ k, v.ownBlock = some k → tb ≠ k) := fun k hk e => by
    have h1 := (hlt k hk).2
    have h2 := htb.out
    omega
  have hS := EncW.mk' (i := 1) rfl hB1
  generalize hz : zigN m = z at *
  have hnum : Hid (∀ v1 w1, w1.ownsRow B 5 1 v1 (n + 1) (bv (xs ++ [1])) → w.heap.size ≤ w1.heap.size → Calls Tryd.prog 65 #[v1, .int .u64 (z : Int)] w1 (OwnsG B v1 (n + 1 + (Cod.numl z).length) (xs ++ [1] ++ Cod.numl z) w1)) := fun v1 w1 h1 h2 => numeral_any B v1 (n + 1) z _ (hz ▸ hz64) w1 h1 (Nat.le_trans hB h2) (by omega)
  have hfin : Hid (∀ v1 w1 v2 w2, Grw w v w1 v1 → Grw w1 v1 w2 v2 → w2.ownsRow B 5 1 v2 (n + 1 + (Cod.numl z).length) (bv (xs ++ [1] ++ Cod.numl z)) → OwnsB B (n + (encF (.int m)).length) (xs ++ encF (.int m)) w (.returned v2) w2) := fun v1 w1 v2 w2 g1 g2 h2 => by
    refine ⟨v2, rfl, ?_, (g1.trans g2).below (fun k hk => (hlt k hk).1) hB⟩
    show World.ownsRow _ _ _ _ _ (n + (1 :: Cod.numl (zigN m)).length) (bv (xs ++ 1 :: Cod.numl (zigN m)))
    rw [hz, List.length_cons, show n + ((Cod.numl z).length + 1) = n + 1 + (Cod.numl z).length by omega, show xs ++ 1 :: Cod.numl z = xs ++ [1] ++ Cod.numl z by simp]
    exact h2
  clear hB1 hm hz hlt
  generalize hX : OwnsB B (n + (encF (.int m)).length) (xs ++ encF (.int m)) w = X at *
  go_enter Tryd.func64, Tryd.ntmps64
  go_wp2_with fail
  rw [htb.out]
  go_region_held3 (fun wz => wz.cell? ⟨tb, 1, none⟩ = some (.int .i64 m) ∧ EncW w wz tb [.int .i64 1, .int .i64 m, .string ⟨#[]⟩, .slice none 0 0]) (repeat (first | assumption | apply EncW.drewB | apply EncW.allocB))
    (first
      | (refine step_append_own rfl (.tmp 5) (.tmp 6) 46 rfl 5 i0 (.int .u8 0) 1 1 Tryd.underlying46 hi hz0 hz1 hz2 rfl (by decide) B v n (bv xs) rfl (ho1.out _) ⟨_, 0, none⟩ 1 1 [.int .u8 1] rfl rfl hcn.out (bv_one [1]) (by unfold maxLen; omega) (by omega) (Nat.le_trans hB (hsz.out _)) ?_; intro v1 w1 hown1 hgrow1 hat1; have hG1 := Grw.appB (hbw.out _) hgrow1 hat1; have hsq : w1.cell? ⟨tb, 1, none⟩ = some (.int .i64 m) ∧ EncW w w1 tb [.int .i64 1, .int .i64 m, .string ⟨#[]⟩, .slice none 0 0] := EncW.mk' rfl (EncW.grown (And.right (by assumption)) hgrow1 hto.out); have hap1 := EncW.apart (And.right (by assumption)) hto.out hat1)
      | (go_at_call 66; refine (hun.out _).mono ?_; rintro e wq ⟨rfl, rfl⟩)
      | (go_at_call 65; refine (hnum.out v1 _ (by rw [bv_append]; exact hown1) hsq.2.size).mono ?_; rintro e w2 ⟨v2, rfl, hown2, hG2⟩; have hsq2 : w2.cell? ⟨tb, 1, none⟩ = some (.int .i64 m) ∧ EncW w w2 tb [.int .i64 1, .int .i64 m, .string ⟨#[]⟩, .slice none 0 0] := EncW.mk' rfl (EncW.grown hsq.2 hG2.1 hap1)))
  go_wp2_with fail
  exact hfin.out _ _ _ _ hG1 hG2 hown2
theorem strCells_bv (s : ByteArray) : Lib.strCells s = bv (octets s) := by
  simp only [Lib.strCells, bv, octets, List.map_map]
  rfl

set_option maxRecDepth 20000 in
set_option maxHeartbeats 2000000 in
theorem writeT_any (B : Nat) (v : Value) (n : Nat) (m : ByteArray) (hm : m.size ≤ 100000000) (xs : List Nat) (w : World) (hown : w.ownsRow B 5 1 v n (bv xs)) (hB : B ≤ w.heap.size) (hn : n ≤ 900000000) :
    Calls Tryd.prog 67 #[v, .agg (fvC (.text m)).toArray] w (OwnsB B (n + (encF (.text m)).length) (xs ++ encF (.text m)) w) := by
  obtain ⟨i0, hi, hz0, hz1, hz2⟩ := info_parts infoB
  have hlt := hown.own
  obtain ⟨tb, htb⟩ : ∃ tb, Hid (w.heap.size = tb) := ⟨_, rfl⟩
  have hB1 : EncW w (w.alloc (.cells (fvC (.text m)).toArray 67)) tb (fvC (.text m)) := ⟨htb.out ▸ Blk.new w _ _, by simp⟩
  simp only [fvC] at hB1 ⊢
  have ho1 : Hid (∀ o, ((w.alloc (.cells #[.int .i64 2, .int .i64 0, .string m, .slice none 0 0] 67)).drew.alloc o).ownsRow B 5 1 v n (bv xs)) := fun o => World.ownsRow.alloc (hown.alloc _) _
  have hbw : Hid (∀ o, Below w.heap.size w ((w.alloc (.cells #[.int .i64 2, .int .i64 0, .string m, .slice none 0 0] 67)).drew.alloc o)) := fun o => ((Below.refl _ w).alloc (Nat.le_refl _) _).drew.alloc (by simp) o
  have hsz : Hid (∀ o, w.heap.size ≤ ((w.alloc (.cells #[.int .i64 2, .int .i64 0, .string m, .slice none 0 0] 67)).drew.alloc o).heap.size) := fun o => (hbw.out o).size
  have hcn : Hid (∀ j u, [Value.int .u8 2][j]? = some u → (((w.alloc (.cells #[.int .i64 2, .int .i64 0, .string m, .slice none 0 0] 67)).alloc (.cells #[.int .u8 2] 5)).drew).cell? ((⟨w.heap.size + 1, 0, none⟩ : Addr).add j) = some u) := by
    have h := cell_one_new (w.alloc (.cells #[.int .i64 2, .int .i64 0, .string m, .slice none 0 0] 67)) (.int .u8 2) 5
    rw [show (w.alloc (.cells #[.int .i64 2, .int .i64 0, .string m, .slice none 0 0] 67)).heap.size = w.heap.size + 1 by simp] at h
    exact h
  have hto : Hid (∀ k, v.ownBlock = some k → tb ≠ k) := fun k hk e => by
    have h1 := (hlt k hk).2
    have h2 := htb.out
    omega
  have hS := EncW.mk' (i := 2) rfl hB1
  have hm0 : (0 : Int) ≤ (m.size : Int) := by omega
  have hm1 : (m.size : Int) ≤ 100000000 := by omega
  have hw64 : IntKind.u64.wrap (m.size : Int) = (m.size : Int) := by simp [IntKind.wrap, IntKind.bits, IntKind.signed]; omega
  have hnum : Hid (∀ v1 w1, w1.ownsRow B 5 1 v1 (n + 1) (bv (xs ++ [2])) → w.heap.size ≤ w1.heap.size → Calls Tryd.prog 65 #[v1, .int .u64 (m.size : Int)] w1 (OwnsG B v1 (n + 1 + (Cod.numl m.size).length) (xs ++ [2] ++ Cod.numl m.size) w1)) := fun v1 w1 h1 h2 => numeral_any B v1 (n + 1) m.size _ (by omega) w1 h1 (Nat.le_trans hB h2) (by omega)
  have hfin : Hid (∀ v1 w1 v2 w2 v3 w3, Grw w v w1 v1 → Grw w1 v1 w2 v2 → w2.ownsRow B 5 1 v2 (n + 1 + (Cod.numl m.size).length) (bv (xs ++ [2] ++ Cod.numl m.size)) → w2.grownBy w3 v2.ownBlock → w3.ownsRow B 5 1 v3 (n + 1 + (Cod.numl m.size).length + m.size) (bv (xs ++ [2] ++ Cod.numl m.size) ++ Lib.strCells m) → OwnsB B (n + (encF (.text m)).length) (xs ++ encF (.text m)) w (.returned v3) w3) := fun v1 w1 v2 w2 v3 w3 g1 g2 h2 g3 h3 => by
    have hb2 := (g1.trans g2).below (fun k hk => (hlt k hk).1) hB
    refine ⟨v3, rfl, ?_, hb2.grown g3 (Nat.le_trans hB hb2.size) (fun k hk => (h2.own k hk).1)⟩
    have e1 : bv (xs ++ [2] ++ Cod.numl m.size) ++ Lib.strCells m = bv (xs ++ encF (.text m)) := by
      rw [strCells_bv, ← bv_append]
      congr 1
      simp [encF]
    have e2 : n + 1 + (Cod.numl m.size).length + m.size = n + (encF (.text m)).length := by
      simp only [encF, List.length_cons, List.length_append, octets_length]; omega
    rw [← e1, ← e2]
    exact h3
  clear hB1 hlt
  generalize hX : OwnsB B (n + (encF (.text m)).length) (xs ++ encF (.text m)) w = X at *
  go_enter Tryd.func67, Tryd.ntmps67
  go_wp2_with fail
  rw [htb.out]
  go_region_held3 (fun wz => wz.cell? ⟨tb, 2, none⟩ = some (.string m) ∧ EncW w wz tb [.int .i64 2, .int .i64 0, .string m, .slice none 0 0]) (repeat (first | assumption | apply EncW.drewB | apply EncW.allocB))
    (first
      | (refine step_append_own rfl (.tmp 5) (.tmp 6) 46 rfl 5 i0 (.int .u8 0) 1 1 Tryd.underlying46 hi hz0 hz1 hz2 rfl (by decide) B v n (bv xs) rfl (ho1.out _) ⟨_, 0, none⟩ 1 1 [.int .u8 2] rfl rfl hcn.out (bv_one [2]) (by unfold maxLen; omega) (by omega) (Nat.le_trans hB (hsz.out _)) ?_; intro v1 w1 hown1 hgrow1 hat1; have hG1 := Grw.appB (hbw.out _) hgrow1 hat1; have hsq : w1.cell? ⟨tb, 2, none⟩ = some (.string m) ∧ EncW w w1 tb [.int .i64 2, .int .i64 0, .string m, .slice none 0 0] := EncW.mk' rfl (EncW.grown (And.right (by assumption)) hgrow1 hto.out); have hap1 := EncW.apart (And.right (by assumption)) hto.out hat1)
      | (go_at_call 65; refine (hnum.out v1 _ (by rw [bv_append]; exact hown1) hsq.2.size).mono ?_; rintro e w2 ⟨v2, rfl, hown2, hG2⟩; have hsq2 : w2.cell? ⟨tb, 2, none⟩ = some (.string m) ∧ EncW w w2 tb [.int .i64 2, .int .i64 0, .string m, .slice none 0 0] := EncW.mk' rfl (EncW.grown hsq.2 hG2.1 hap1); have hap2 := hG2.apart hsq.2.blk.lt hap1)
      | (refine step_append_ownS rfl (.tmp 12) (.tmp 14) 46 9 rfl 5 i0 Tryd.underlying46 Tryd.underlying9 hi hz0 hz1 hz2 B v2 _ _ rfl hown2 m rfl (by have := Cod.numl_len64 (u := m.size) (by omega); unfold maxLen; omega) (by have := Cod.numl_len64 (u := m.size) (by omega); omega) (Nat.le_trans hB hsq2.2.size) ?_; intro v3 w3 hown3 hgrow3; have hsq3 : w3.cell? ⟨tb, 2, none⟩ = some (.string m) ∧ EncW w w3 tb [.int .i64 2, .int .i64 0, .string m, .slice none 0 0] := EncW.mk' rfl (EncW.grown hsq2.2 hgrow3 hap2)))
  go_wp2_with fail
  exact hfin.out _ _ _ _ _ _ hG1 hG2 hown2 hgrow3 hown3
end Go.Proofs.YtgfmdjagamjpbaaDoor
