/- the examples of chapter 36, plainly -/
import Derived.Test.YthnfjkgiaanmhaaGreatDoorGb
import Derived.Test.YthnfjkgiaanmhaaGreatDoorGq
namespace Go.Dr
def growS (b : Int) (D : Dir) (x : Lst) : Dir := if (setD b D x).2 = 0 then (setD b D x).1 else if (tickD b D).2 = 0 then (tickD b D).1 else D
def grownD (b : Int) : Dir → List Lst → Dir
 | D, [] => D
 | D, x :: t => grownD b (growS b D x) t
def seenW (b : Int) (R : List Rt) : Wt → List Nat → Wt × Bool
 | V, [] => (V, true)
 | V, k :: t => match R[k % R.length]? with
  | none => (V, true)
  | some r => if (accW b V r).2.2 = 0 then seenW b R (accW b V r).1 t else (V, false)
end Go.Dr
namespace Go.Proofs.YthnfjkgiaanmhaaGreatDoor
open Go.RowKit Go.Mem
open Go.Dr (Lst Rt Dir Wt)

theorem tick_at {D E : Dir} {la : Option Addr} {ln lc : Nat} {ra : Option Addr} {rn rc : Nat} {w : World} (h : Go.Dr.tickD 4 D = (E, 0)) (hl : E.ls = D.ls) (_hp : E.priv = D.priv) (HT : Tabs w) (H : DM (fun _ => True) w D la ln lc ra rn rc) :
 Calls Tryz.prog 23 #[.agg (dirC D.priv la ln lc ra rn rc).toArray] w (fun e w' => ∃ b d, e = .returned (.tuple #[.agg (dirC E.priv la E.ls.length lc b E.rs.length d).toArray, .int .i64 0]) ∧ QS (fun b => w.heap.size ≤ b) w' b E.rs.length d E.rs ∧ Below w.heap.size w w') := by
 have h1 := tick_any (fun _ => True) D la ln lc ra rn rc w HT H
 rw [h] at h1
 refine h1.mono ?_
 rintro e w' (⟨_, b, m, d, rfl, hQ, hb⟩ | ⟨h0, _⟩)
 · obtain rfl : E.rs.length = m := RS.len hQ
   obtain rfl : E.ls.length = ln := by rw [hl]; exact RS.len H.gs
   exact ⟨b, d, rfl, hQ, hb⟩
 · exact absurd rfl h0
theorem tick_no {D E : Dir} {q : Int} {la : Option Addr} {ln lc : Nat} {ra : Option Addr} {rn rc : Nat} {w : World} (h : Go.Dr.tickD 4 D = (E, q)) (hq : q ≠ 0) (HT : Tabs w) (H : DM (fun _ => True) w D la ln lc ra rn rc) :
 Calls Tryz.prog 23 #[.agg (dirC D.priv la ln lc ra rn rc).toArray] w (fun e w' => e = .returned (.tuple #[.agg zdV.toArray, .int .i64 q]) ∧ Below w.heap.size w w') := by
 have h1 := tick_any (fun _ => True) D la ln lc ra rn rc w HT H
 rw [h] at h1
 refine h1.mono ?_
 rintro e w' (⟨h0, _⟩ | ⟨_, rfl, hb⟩)
 · exact absurd h0 hq
 · exact ⟨rfl, hb⟩
theorem tick_same {b : Int} {D E : Dir} (h : Go.Dr.tickD b D = (E, 0)) : E.ls = D.ls ∧ E.priv = D.priv := by
 unfold Go.Dr.tickD at h
 split at h
 · split at h
   · split at h
     · simp only [Prod.mk.injEq, and_true] at h; rw [← h]; exact ⟨rfl, rfl⟩
     · simp at h
   · simp at h
 · simp at h

end Go.Proofs.YthnfjkgiaanmhaaGreatDoor
namespace Go.Mem
open Go.RowKit
variable {P : Program}
theorem results_cell_tmp_tmp {fn : Func} {p u u2 : Tmp} {ty : TypeId} (h : fn.results = #[.cell p ty, .tmp u, .tmp u2]) (tmps : Array Value) (w : World) :
 (results fn tmps).run P w = ((asAddr (tmps.getD p undef)).run P w).andThen fun a w₁ => ((loadVar ty a).run P w₁).andThen fun x w₂ => .ok (.tuple #[x, tmps.getD u undef, tmps.getD u2 undef]) w₂ := by
 simp only [results, h]
 simp [Sem.run_bind, Result.andThen]
theorem ret_cell_tmp_tmp {fn : Func} {p u u2 : Tmp} {ty t : TypeId} (h : fn.results = #[.cell p ty, .tmp u, .tmp u2]) {W : World} {g : Nat} {r : List Value} {d : TypeDesc} {v v2 : Value} (hB : Blk W g t r) (hu : P.underlying ty = some d) (hd : d.isRow = true) (hi : (P.info? ty).map (·.size) = some r.length)
 {a : Act} (hp : a.tmps.getD p undef = .pointer (some ⟨g, 0, none⟩)) (hq : a.tmps.getD u undef = v) (hq2 : a.tmps.getD u2 undef = v2) (hdf : a.defers = []) {Post : Ending → World → Prop} (hP : Post (.returned (.tuple #[.agg r.toArray, v, v2])) W) : bodyPost P fn Post .ret a W := by
 refine bodyPost_ret (v := .tuple #[.agg r.toArray, v, v2]) ?_ hdf hP
 rw [results_cell_tmp_tmp h, hp, hq, hq2]
 simp only [asAddr, Sem.run_pure, Result.andThen_ok, load_blk hB hu hd hi]
end Go.Mem
namespace Go.Proofs.YthnfjkgiaanmhaaGreatDoor
open Go.RowKit Go.Mem
open Go.Dr (Lst Rt Dir Wt)
def Open36Post (k : Int) (w : World) (e : Ending) (w' : World) : Prop := e = .returned (.tuple #[.agg (dirC (Go.Dr.newD k).1.priv none 0 0 none 0 0).toArray, .int .i64 (publicK 4 k).1, .bool (keyOk k)]) ∧ Below w.heap.size w w'
set_option maxRecDepth 20000 in
set_option maxHeartbeats 2000000 in
theorem open36_any (k : Int) (w : World) : Calls Tryz.prog 9 #[.int .i64 k] w (Open36Post k w) := by
 have hn := Lib.hid (dnew_any k)
 have hp := Lib.hid (Public_any k)
 unfold NewPost at hn
 unfold RetII at hp
 have hq : Hid ((Go.Dr.newD k).2 = if keyOk k then 0 else 50) := by show _ = _; unfold Go.Dr.newD; cases keyOk k <;> rfl
 have hq2 : Hid ((publicK 4 k).2 = if keyOk k then 0 else 50) := by show _ = _; unfold publicK; cases keyOk k <;> rfl
 obtain ⟨X, hX⟩ : ∃ X, X = Open36Post k w := ⟨_, rfl⟩
 have hfin : Hid (∀ W, Below w.heap.size w W → X (.returned (.tuple #[.agg (dirC (Go.Dr.newD k).1.priv none 0 0 none 0 0).toArray, .int .i64 (publicK 4 k).1, .bool (keyOk k)])) W) := fun W h => by rw [hX]; exact ⟨rfl, h⟩
 rw [← hX]
 clear hX
 obtain ⟨pr, hpr⟩ : ∃ p, Hid ((Go.Dr.newD k).1.priv = p) := ⟨_, rfl⟩
 obtain ⟨pu, hpu⟩ : ∃ p, Hid ((publicK 4 k).1 = p) := ⟨_, rfl⟩
 obtain ⟨ko, hko⟩ : ∃ p, Hid (keyOk k = p) := ⟨_, rfl⟩
 rw [hq.out, hpr.out, hko.out] at hn
 rw [hq2.out, hpu.out, hko.out] at hp
 rw [hpr.out, hpu.out, hko.out] at hfin
 clear hq hq2
 cases ko with
 | false =>
  rw [if_neg (by simp)] at hn hp
  obtain ⟨tb, htb⟩ : ∃ tb, Hid (w.heap.size = tb) := ⟨_, rfl⟩
  obtain ⟨W0, hW0⟩ : ∃ W, Hid (w.alloc (.cells (dirC 0 none 0 0 none 0 0).toArray 27) = W) := ⟨_, rfl⟩
  have hB0 : Hid (Blk W0 tb 27 (dirC 0 none 0 0 none 0 0)) := by rw [← hW0.out, ← htb.out]; exact Blk.new w _ _
  have hb0 : Hid (Below w.heap.size w W0) := by rw [← hW0.out]; exact (Below.refl _ w).alloc (Nat.le_refl _) _
  go_enter Tryz.func9, Tryz.ntmps9
  go_upto_region 1 with fail
  rw [htb.out]
  generalize hWz : World.alloc _ _ = Wz
  obtain rfl : W0 = Wz := by rw [← hWz]; exact hW0.out.symm
  clear hWz hW0
  go_wp2_with fail
  refine (hn.out _).mono ?_
  rintro e w1 ⟨rfl, hst⟩
  have hb1 := Lib.hid (hb0.out.trans (hst.mono hb0.out.size))
  have hB1 := Lib.hid (hB0.out.below hst hB0.out.lt)
  clear hst hb0 hB0 hn
  obtain ⟨v2, hP⟩ : ∃ V, Hid (PutR 27 (w1.alloc (.cells (dirC 0 none 0 0 none 0 0 : List Value).toArray 27)) V w1.heap.size 27 (dirC pr none 0 0 none 0 0)) := put_row (Blk.new w1 27 (dirC 0 none 0 0 none 0 0 : List Value)) rfl (sizeDr) (dr_one _ _ _ _ _ _ _)
  have hst := below_grown ((Below.refl _ w1).alloc (Nat.le_refl _) _) hP.out.grown (by simp) (Nat.le_refl _)
  have hb2 := Lib.hid (hb1.out.trans (hst.mono hb1.out.size))
  have hB2 := Lib.hid (hB1.out.below hst hB1.out.lt)
  have hD2 := Lib.hid hP.out.blk
  obtain ⟨db, hdb⟩ : ∃ db, Hid (w1.heap.size = db) := ⟨_, rfl⟩
  have hDd := hD2.out
  rw [hdb.out] at hDd
  have hD2' := Lib.hid hDd
  clear hst hb1 hB1 hD2 hDd
  go_wp2_with (first
   | (refine wpList_store_mid (by rfl) 27 (.tmp 5) (.tmp 12) (by rfl) w1.heap.size 0 (dirC pr none 0 0 none 0 0).toArray (by rfl) (by rfl) hP.out.there hP.out.info (by simpa using hP.out.one) ?_
      generalize hWq : World.setCells _ _ _ _ = Wa
      obtain rfl : v2 = Wa := by rw [← hWq]; exact hP.out.eq
      clear hWq
      rw [hdb.out]))
  refine (hp.out _).mono ?_
  rintro e w3 ⟨rfl, hst⟩
  have hb3 := Lib.hid (hb2.out.trans (hst.mono hb2.out.size))
  have hB3 := Lib.hid (hB2.out.below hst hB2.out.lt)
  have hD3 := Lib.hid (hD2'.out.below hst hD2'.out.lt)
  clear hst hb2 hB2 hD2' hp hP
  obtain ⟨V9, hP9⟩ := put_row (ty := 27) hB3.out (x := dirC pr none 0 0 none 0 0) rfl sizeDr (dr_one _ _ _ _ _ _ _)
  have hb9 := Lib.hid (below_grown hb3.out hP9.grown hb3.out.size (Nat.le_of_eq htb.out))
  have hP9' := Lib.hid hP9
  have y0 := hD3.out.at_ (i := 0) (x := .int .i64 pr) rfl
  have y1 := hD3.out.at_ (i := 1) (x := .slice none 0 0) rfl
  have y2 := hD3.out.at_ (i := 2) (x := .slice none 0 0) rfl
  have hend := Lib.hid (hfin.out _ hb9.out)
  clear hP9 hfin
  go_wp2_with (first
   | (refine wpList_store_mid (by rfl) 27 (.tmp 2) (.tmp 19) (by rfl) tb 0 (dirC pr none 0 0 none 0 0).toArray (by rfl) (by rfl) hP9'.out.there hP9'.out.info (by simpa using hP9'.out.one) ?_
      generalize hWq : World.setCells _ _ _ _ = Wa
      obtain rfl : V9 = Wa := by rw [← hWq]; exact hP9'.out.eq
      clear hWq))
  exact ret_cell_tmp_tmp (p := 2) (u := 3) (u2 := 4) rfl hP9'.out.blk Tryz.underlying27 rfl sizeDr rfl rfl rfl rfl hend.out
 | true =>
  rw [if_pos rfl] at hn hp
  obtain ⟨tb, htb⟩ : ∃ tb, Hid (w.heap.size = tb) := ⟨_, rfl⟩
  obtain ⟨W0, hW0⟩ : ∃ W, Hid (w.alloc (.cells (dirC 0 none 0 0 none 0 0).toArray 27) = W) := ⟨_, rfl⟩
  have hB0 : Hid (Blk W0 tb 27 (dirC 0 none 0 0 none 0 0)) := by rw [← hW0.out, ← htb.out]; exact Blk.new w _ _
  have hb0 : Hid (Below w.heap.size w W0) := by rw [← hW0.out]; exact (Below.refl _ w).alloc (Nat.le_refl _) _
  go_enter Tryz.func9, Tryz.ntmps9
  go_upto_region 1 with fail
  rw [htb.out]
  generalize hWz : World.alloc _ _ = Wz
  obtain rfl : W0 = Wz := by rw [← hWz]; exact hW0.out.symm
  clear hWz hW0
  go_wp2_with fail
  refine (hn.out _).mono ?_
  rintro e w1 ⟨rfl, hst⟩
  have hb1 := Lib.hid (hb0.out.trans (hst.mono hb0.out.size))
  have hB1 := Lib.hid (hB0.out.below hst hB0.out.lt)
  clear hst hb0 hB0 hn
  obtain ⟨v2, hP⟩ : ∃ V, Hid (PutR 27 (w1.alloc (.cells (dirC 0 none 0 0 none 0 0 : List Value).toArray 27)) V w1.heap.size 27 (dirC pr none 0 0 none 0 0)) := put_row (Blk.new w1 27 (dirC 0 none 0 0 none 0 0 : List Value)) rfl (sizeDr) (dr_one _ _ _ _ _ _ _)
  have hst := below_grown ((Below.refl _ w1).alloc (Nat.le_refl _) _) hP.out.grown (by simp) (Nat.le_refl _)
  have hb2 := Lib.hid (hb1.out.trans (hst.mono hb1.out.size))
  have hB2 := Lib.hid (hB1.out.below hst hB1.out.lt)
  have hD2 := Lib.hid hP.out.blk
  obtain ⟨db, hdb⟩ : ∃ db, Hid (w1.heap.size = db) := ⟨_, rfl⟩
  have hDd := hD2.out
  rw [hdb.out] at hDd
  have hD2' := Lib.hid hDd
  clear hst hb1 hB1 hD2 hDd
  go_wp2_with (first
   | (refine wpList_store_mid (by rfl) 27 (.tmp 5) (.tmp 12) (by rfl) w1.heap.size 0 (dirC pr none 0 0 none 0 0).toArray (by rfl) (by rfl) hP.out.there hP.out.info (by simpa using hP.out.one) ?_
      generalize hWq : World.setCells _ _ _ _ = Wa
      obtain rfl : v2 = Wa := by rw [← hWq]; exact hP.out.eq
      clear hWq
      rw [hdb.out]))
  refine (hp.out _).mono ?_
  rintro e w3 ⟨rfl, hst⟩
  have hb3 := Lib.hid (hb2.out.trans (hst.mono hb2.out.size))
  have hB3 := Lib.hid (hB2.out.below hst hB2.out.lt)
  have hD3 := Lib.hid (hD2'.out.below hst hD2'.out.lt)
  clear hst hb2 hB2 hD2' hp hP
  obtain ⟨V9, hP9⟩ := put_row (ty := 27) hB3.out (x := dirC pr none 0 0 none 0 0) rfl sizeDr (dr_one _ _ _ _ _ _ _)
  have hb9 := Lib.hid (below_grown hb3.out hP9.grown hb3.out.size (Nat.le_of_eq htb.out))
  have hP9' := Lib.hid hP9
  have y0 := hD3.out.at_ (i := 0) (x := .int .i64 pr) rfl
  have y1 := hD3.out.at_ (i := 1) (x := .slice none 0 0) rfl
  have y2 := hD3.out.at_ (i := 2) (x := .slice none 0 0) rfl
  have hend := Lib.hid (hfin.out _ hb9.out)
  clear hP9 hfin
  go_wp2_with (first
   | (refine wpList_store_mid (by rfl) 27 (.tmp 2) (.tmp 19) (by rfl) tb 0 (dirC pr none 0 0 none 0 0).toArray (by rfl) (by rfl) hP9'.out.there hP9'.out.info (by simpa using hP9'.out.one) ?_
      generalize hWq : World.setCells _ _ _ _ = Wa
      obtain rfl : V9 = Wa := by rw [← hWq]; exact hP9'.out.eq
      clear hWq))
  exact ret_cell_tmp_tmp (p := 2) (u := 3) (u2 := 4) rfl hP9'.out.blk Tryz.underlying27 rfl sizeDr rfl rfl rfl rfl hend.out

def GrownPost (K : Nat → Prop) (E : Dir) (w : World) (e : Ending) (w' : World) : Prop := ∃ la lc ra rc, e = .returned (.agg (dirC E.priv la E.ls.length lc ra E.rs.length rc).toArray) ∧ DM (fun b => (K b ∧ b < w.heap.size) ∨ w.heap.size ≤ b) w' E la E.ls.length lc ra E.rs.length rc ∧ Below w.heap.size w w'
set_option maxRecDepth 20000 in
set_option maxHeartbeats 8000000 in
theorem grown_any (K K2 : Nat → Prop) (D : Dir) (la0 : Option Addr) (lc0 : Nat) (ra0 : Option Addr) (rc0 : Nat) (l : List Lst) (a : Option Addr) (n c : Nat) (w : World) (HT : Tabs w) (H : DM K w D la0 D.ls.length lc0 ra0 D.rs.length rc0) (HG : GS K2 w a n c l) :
 Calls Tryz.prog 10 #[.agg (dirC D.priv la0 D.ls.length lc0 ra0 D.rs.length rc0).toArray, .slice a n c] w (GrownPost K (Go.Dr.grownD 4 D l) w) := by
 have HT' := Lib.hid HT
 have hlen := RS.len HG
 have n63 : (n : Int) ≤ 9223372036854775807 := by have := RS.le HG; have := RS.max HG; omega
 obtain ⟨tb, htb⟩ : ∃ tb, Hid (w.heap.size = tb) := ⟨_, rfl⟩
 obtain ⟨xb, hxb⟩ : ∃ rb, Hid (tb + 1 = rb) := ⟨_, rfl⟩
 have e2 : tb < xb := by have := hxb.out; omega
 obtain ⟨W0, hW0⟩ : ∃ W, Hid ((w.alloc (.cells (dirC D.priv la0 D.ls.length lc0 ra0 D.rs.length rc0).toArray 27)).alloc (.cells (dirC 0 none 0 0 none 0 0).toArray 27) = W) := ⟨_, rfl⟩
 have hB0 : Hid (Blk W0 tb 27 (dirC D.priv la0 D.ls.length lc0 ra0 D.rs.length rc0)) := by rw [← hW0.out, ← htb.out]; exact (Blk.new w _ _).alloc _
 have hX0 : Hid (Blk W0 xb 27 (dirC 0 none 0 0 none 0 0)) := by
  rw [← hW0.out, ← hxb.out, ← htb.out]
  have := Blk.new (w.alloc (.cells (dirC D.priv la0 D.ls.length lc0 ra0 D.rs.length rc0).toArray 27)) 27 (dirC 0 none 0 0 none 0 0)
  rwa [World.size_alloc] at this
 have hb0 : Hid (Below tb w W0) := by rw [← hW0.out, ← htb.out]; exact ((Below.refl _ w).alloc (Nat.le_refl _) _).alloc (by simp) _
 have hs0 : Hid (W0.heap.size = xb + 1) := by rw [← hW0.out, ← hxb.out, ← htb.out]; show _ = _; rw [World.size_alloc, World.size_alloc]
 have hD0 : Hid (DM (fun b => (K b ∧ b < tb) ∨ xb < b) W0 D la0 D.ls.length lc0 ra0 D.rs.length rc0) := (H.imp (K' := fun b => (K b ∧ b < tb) ∨ xb < b) (fun b hb hk => .inl ⟨hk, by rw [← htb.out]; exact hb⟩)).below (by rw [htb.out]; exact hb0.out)
 have hTw : Hid (∀ W, Below tb w W → Tabs W) := fun W h => HT'.out.below (by rw [htb.out]; exact h)
 have hGw : Hid (∀ W, Below tb w W → GS K2 W a n c l) := fun W h => HG.below (by rw [htb.out]; exact h)
 obtain ⟨G, hG⟩ : ∃ G, Hid (Go.Dr.grownD 4 D l = G) := ⟨_, rfl⟩
 have hG' := hG.out
 rw [hG']
 obtain ⟨X, hX⟩ : ∃ X, X = GrownPost K G w := ⟨_, rfl⟩
 have hfin : Hid (∀ la lc ra rc W, DM (fun b => (K b ∧ b < tb) ∨ tb ≤ b) W G la G.ls.length lc ra G.rs.length rc → Below tb w W → X (.returned (.agg (dirC G.priv la G.ls.length lc ra G.rs.length rc).toArray)) W) := fun la lc ra rc W h1 h2 => by rw [hX]; exact ⟨la, lc, ra, rc, rfl, by rw [htb.out]; exact h1, by rw [htb.out]; exact h2⟩
 rw [← hX]
 clear hX H HG HT HT'
 have hW0' := hW0.out
 obtain ⟨ln0, hln0⟩ : ∃ m, Hid (D.ls.length = m) := ⟨_, rfl⟩
 obtain ⟨rn0, hrn0⟩ : ∃ m, Hid (D.rs.length = m) := ⟨_, rfl⟩
 go_enter Tryz.func10, Tryz.ntmps10
 go_upto_region 1 with fail
 rw [htb.out, hxb.out]
 generalize hWz : World.alloc _ _ = Wz
 obtain rfl : W0 = Wz := by rw [← hWz]; exact hW0'.symm
 clear hWz hW0 hW0' hG'
 go_wp2_with fail
 go_loopw [5] (fun i wr => ∃ (k : Nat) (D2 : Dir) (la : Option Addr) (lc : Nat) (ra : Option Addr) (rc : Nat), k ≤ n ∧ i = .int .i64 (k : Int) ∧ Hid (Blk wr tb 27 (dirC D2.priv la D2.ls.length lc ra D2.rs.length rc)) ∧ Hid (Blk wr xb 27 (dirC 0 none 0 0 none 0 0)) ∧ Hid (DM (fun b => (K b ∧ b < tb) ∨ xb < b) wr D2 la D2.ls.length lc ra D2.rs.length rc) ∧ Hid (Go.Dr.grownD 4 D2 (l.drop k) = G) ∧ Hid (Below tb w wr)) (fun i _ => n - (intOf i).toNat)
 case atStart => exact ⟨0, D, la0, lc0, ra0, rc0, Nat.zero_le _, rfl, hB0, hX0, hD0, hG, hb0⟩
 case round =>
  obtain ⟨k, D2, la, lc, ra, rc, hk, rfl, hB, hXb, hD, hgr, hbr⟩ := hrel
  have hwt : w.heap.size = tb := htb.out
  by_cases hlt : k < n
  · have hkl : k < l.length := by omega
    obtain ⟨x, hx⟩ : ∃ x, l[k]? = some x := ⟨_, List.getElem?_eq_getElem hkl⟩
    have hdrop : l.drop k = x :: l.drop (k + 1) := by rw [List.drop_eq_getElem_cons hkl, (List.getElem?_eq_some_iff.1 hx).2]
    have hgr2 := hgr.out
    rw [hdrop, Go.Dr.grownD] at hgr2
    have hgs := hGw.out _ hbr.out
    obtain ⟨b, off, rfl, hbl, _, hox0, hrg0⟩ := hgs.cells hx
    have hox := Lib.hid hox0
    have hxl : xb < wr.heap.size := hXb.out.lt
    have hxc0 : Hid (∀ wz, Below wr.heap.size wr wz → wz.cell? ⟨b, off + k * 5, none⟩ = some (.int .i64 x.dev)) := fun wz h => by
     rw [h.cell (p := ⟨b, off + k * 5, none⟩) hbl]
     exact hrg0 0 _ rfl
    have hxc1 : Hid (∀ wz, Below wr.heap.size wr wz → wz.cell? ⟨b, off + k * 5 + 1, none⟩ = some (.int .i64 x.ver)) := fun wz h => by
     rw [h.cell (p := ⟨b, off + k * 5 + 1, none⟩) hbl]
     exact hrg0 1 _ rfl
    have hxc2 : Hid (∀ wz, Below wr.heap.size wr wz → wz.cell? ⟨b, off + k * 5 + 2, none⟩ = some (.int .i64 x.leaf)) := fun wz h => by
     rw [h.cell (p := ⟨b, off + k * 5 + 2, none⟩) hbl]
     exact hrg0 2 _ rfl
    have hxc3 : Hid (∀ wz, Below wr.heap.size wr wz → wz.cell? ⟨b, off + k * 5 + 3, none⟩ = some (.int .i64 x.vers)) := fun wz h => by
     rw [h.cell (p := ⟨b, off + k * 5 + 3, none⟩) hbl]
     exact hrg0 3 _ rfl
    have hxc4 : Hid (∀ wz, Below wr.heap.size wr wz → wz.cell? ⟨b, off + k * 5 + 4, none⟩ = some (.bool x.gone)) := fun wz h => by
     rw [h.cell (p := ⟨b, off + k * 5 + 4, none⟩) hbl]
     exact hrg0 4 _ rfl
    have k0 : (0 : Int) ≤ (k : Int) := by omega
    have k1 : (k : Int) < (n : Int) := by omega
    clear hgr hdrop hgs hx hox0 hkl hrg0
    go_upto_region 4 with fail
    by_cases hs0 : (Go.Dr.setD 4 D2 x).2 = 0
    · obtain ⟨E, hE⟩ : ∃ E, Go.Dr.setD 4 D2 x = (E, 0) := ⟨(Go.Dr.setD 4 D2 x).1, by rw [← hs0]⟩
      have hgE : Go.Dr.growS 4 D2 x = E := by unfold Go.Dr.growS; rw [if_pos hs0, hE]
      rw [hgE] at hgr2
      have hgr3 := Lib.hid hgr2
      clear hgr2 hgE hs0
      refine share (G := ∀ (q9 : Nat) (xa : Option Addr) (xc : Nat) (ya : Option Addr) (yc : Nat) (WZ : World), (Below wr.heap.size wr WZ) → (Blk WZ q9 27 (dirC E.priv xa E.ls.length xc ya E.rs.length yc)) → (wr.heap.size ≤ q9) → (DM (fun b => wr.heap.size ≤ b ∧ b ≠ q9) WZ E xa E.ls.length xc ya E.rs.length yc) → (?GfinR4 : Nat → Option Addr → Nat → Option Addr → Nat → World → Prop) q9 xa xc ya yc WZ) ?hfinR4 ?kfinR4
      case' hfinR4 =>
       intro KfinR4
      case' hfinR4 =>
       refine share (G := ∀ (q9 : Nat) (xa : Option Addr) (xc : Nat) (ya : Option Addr) (yc : Nat) (WZ : World), (Below wr.heap.size wr WZ) → (Blk WZ q9 27 (dirC 0 none 0 0 none 0 0)) → (wr.heap.size ≤ q9) → (DM (fun b => wr.heap.size ≤ b ∧ b ≠ q9) WZ E xa E.ls.length xc ya E.rs.length yc) → (?Gs1_9_R4 : Nat → Option Addr → Nat → Option Addr → Nat → World → Prop) q9 xa xc ya yc WZ) ?hs1_9_R4 ?ks1_9_R4
      case' hs1_9_R4 => intro Ks1_9_R4
      case' hs1_9_R4 =>
       refine share (G := ∀ (xa : Option Addr) (xc : Nat) (ya : Option Addr) (yc : Nat) (WZ : World), (Below wr.heap.size wr WZ) → (DM (fun b => wr.heap.size ≤ b) WZ E xa E.ls.length xc ya E.rs.length yc) → (?Gs1_R4 : Option Addr → Nat → Option Addr → Nat → World → Prop) xa xc ya yc WZ) ?hs1_R4 ?ks1_R4
      case' hs1_R4 => intro Ks1_R4
      case' hs1_R4 =>
       refine share (G := ∀ (q9 : Nat) (WZ : World), (Below wr.heap.size wr WZ) → (Blk WZ q9 27 (dirC 0 none 0 0 none 0 0)) → (wr.heap.size ≤ q9) → (?Gs0_9_R4 : Nat → World → Prop) q9 WZ) ?hs0_9_R4 ?ks0_9_R4
      case' hs0_9_R4 => intro Ks0_9_R4
      case hs0_9_R4 =>
       refine wp_region_held_drew (S := fun wz => Below wr.heap.size wr wz) (by kernel_rfl) ((Below.refl _ wr).drew) (fun hHeld => ?_)
       generalize wr.drew = WZ at *
       refine tk (i := 0) (oi := ⟨some 15, .load 27 (.tmp 2), 27, "law.go:16", #[], none⟩) (v := ?_) rfl (Or.inl ⟨by rfl, ?_⟩) hHeld ?_
       rotate_left
       · intro wz hSw
         have q0 := (hB.out.below hSw hB.out.lt).at_ (i := 0) (x := .int .i64 D2.priv) rfl
         have q1 := (hB.out.below hSw hB.out.lt).at_ (i := 1) (x := .slice la D2.ls.length lc) rfl
         have q2 := (hB.out.below hSw hB.out.lt).at_ (i := 2) (x := .slice ra D2.rs.length rc) rfl
         go_simp
         all_goals (with_reducible rfl)
       try simp only [Act.put, sA, s0, s1]
       refine tkq (i := 1) (oi := ⟨some 16, .move (.tmp 1), 22, "law.go:16", #[], none⟩) rfl hHeld ?_
       refine tkq (i := 2) (oi := ⟨some 17, .move (.tmp 5), 3, "law.go:16", #[], none⟩) rfl hHeld ?_
       refine tk (i := 3) (oi := ⟨some 18, .indexAddr 22 (.tmp 16) (.tmp 17), 0, "law.go:16", #[⟨1, .data⟩, ⟨2, .data⟩], none⟩) (v := ?_) rfl (Or.inl ⟨by rfl, ?_⟩) hHeld ?_
       rotate_left
       · intro wz hSw
         have k0' := k0
         have k1' := k1
         go_simp
         all_goals (with_reducible rfl)
       try simp only [Act.put, sA, s0, s1]
       refine tk (i := 4) (oi := ⟨some 19, .load 57 (.tmp 18), 57, "law.go:16", #[⟨3, .data⟩], none⟩) (v := ?_) rfl (Or.inl ⟨by rfl, ?_⟩) hHeld ?_
       rotate_left
       · intro wz hSw
         have l0 : wz.cell? ⟨b, off + k * 5, none⟩ = some (.int .i64 x.dev) := hxc0.out wz hSw
         have l1 : wz.cell? ⟨b, off + k * 5 + 1, none⟩ = some (.int .i64 x.ver) := hxc1.out wz hSw
         have l2 : wz.cell? ⟨b, off + k * 5 + 2, none⟩ = some (.int .i64 x.leaf) := hxc2.out wz hSw
         have l3 : wz.cell? ⟨b, off + k * 5 + 3, none⟩ = some (.int .i64 x.vers) := hxc3.out wz hSw
         have l4 : wz.cell? ⟨b, off + k * 5 + 4, none⟩ = some (.bool x.gone) := hxc4.out wz hSw
         go_simp
         all_goals (with_reducible rfl)
       try simp only [Act.put, sA, s0, s1]
       refine Go.rd (rs := [5, 9]) ?_
       refine Go.rc (o := ⟨some 20, .call { callee := .value (.func 22), args := #[.tmp 15, .tmp 19], argTypes := #[27, 57] }, 60, "law.go:16", #[⟨0, .data⟩, ⟨4, .data⟩], none⟩) rfl (fun K hK => ?_) (Go.rc (o := ⟨some 6, .alloc 27, 0, "law.go:16", #[], none⟩) rfl (fun K hK => ?_) Go.rn)
       case refine_1 =>
        go_simp
        go_at_call 22
        refine (set_at hE hox.out (hTw.out _ (hbr.out.trans (hHeld.mono (by omega)))) ((hD.out.below hHeld).imp (fun _ _ _ => trivial))).mono ?_
        rintro e wq ⟨xa, xc, ya, yc, rfl, hDM0, hst⟩


        refine hK.out _ _ (hHeld.trans (hst.mono hHeld.size)) (fun hHeld2 => ?_)
        clear hK K
        try simp only [Act.put, sA, s0, s1]
        refine tkq (i := 6) (oi := ⟨some 14, .move (.tmp 20), 60, "law.go:16", #[⟨5, .data⟩], none⟩) rfl hHeld2 ?_
        refine tkq (i := 7) (oi := ⟨some 21, .extract (.tmp 14) 0, 27, "law.go:16", #[⟨6, .data⟩], none⟩) rfl hHeld2 ?_
        refine tkq (i := 8) (oi := ⟨some 22, .extract (.tmp 14) 1, 45, "law.go:16", #[⟨6, .data⟩, ⟨10, .gcOnly .lateStores⟩], none⟩) rfl hHeld2 ?_
        exact Ks1_R4 xa xc ya yc wq (hHeld2) (hDM0.imp (fun b hb hk => by have h8 := hHeld.size; first | (have h9 := hB9.lt; show _ ∧ _; omega) | (show _ ≤ _; omega)))
       case refine_2 =>
        go_simp
        refine hK.out _ _ (hHeld.alloc hHeld.size _) (fun hHeld2 => ?_)
        clear hK K
        try simp only [Act.put, sA, s0, s1]
        generalize hW2 : World.alloc WZ _ = W2
        rw [hW2] at hHeld2
        generalize hq : WZ.heap.size = q9
        have hBn : Blk W2 q9 27 (dirC 0 none 0 0 none 0 0) := by rw [← hW2, ← hq]; exact Blk.new _ _ _
        have hLn := hHeld.size
        rw [hq] at hLn
        clear hW2 hq
        exact Ks0_9_R4 q9 W2 (hHeld2) (hBn) (hLn)
      case ks0_9_R4 =>
       intro q9 WZ hHeld hB9 hL9
       refine Go.rd (rs := [5]) ?_
       refine Go.rc (o := ⟨some 20, .call { callee := .value (.func 22), args := #[.tmp 15, .tmp 19], argTypes := #[27, 57] }, 60, "law.go:16", #[⟨0, .data⟩, ⟨4, .data⟩], none⟩) rfl (fun K hK => ?_) Go.rn
       go_simp
       go_at_call 22
       refine (set_at hE hox.out (hTw.out _ (hbr.out.trans (hHeld.mono (by omega)))) ((hD.out.below hHeld).imp (fun _ _ _ => trivial))).mono ?_
       rintro e wq ⟨xa, xc, ya, yc, rfl, hDM0, hst⟩


       refine hK.out _ _ (hHeld.trans (hst.mono hHeld.size)) (fun hHeld2 => ?_)
       clear hK K
       try simp only [Act.put, sA, s0, s1]
       refine tkq (i := 6) (oi := ⟨some 14, .move (.tmp 20), 60, "law.go:16", #[⟨5, .data⟩], none⟩) rfl hHeld2 ?_
       refine tkq (i := 7) (oi := ⟨some 21, .extract (.tmp 14) 0, 27, "law.go:16", #[⟨6, .data⟩], none⟩) rfl hHeld2 ?_
       refine tkq (i := 8) (oi := ⟨some 22, .extract (.tmp 14) 1, 45, "law.go:16", #[⟨6, .data⟩, ⟨10, .gcOnly .lateStores⟩], none⟩) rfl hHeld2 ?_
       exact Ks1_9_R4 q9 xa xc ya yc wq (hHeld2) (hB9.below hst hB9.lt) (hL9) (hDM0.imp (fun b hb hk => by have h8 := hHeld.size; first | (have h9 := hB9.lt; show _ ∧ _; omega) | (show _ ≤ _; omega)))
      case ks1_R4 =>
       intro xa xc ya yc WZ hHeld hDM
       refine Go.rd (rs := [9]) ?_
       refine Go.rc (o := ⟨some 6, .alloc 27, 0, "law.go:16", #[], none⟩) rfl (fun K hK => ?_) Go.rn
       go_simp
       refine hK.out _ _ (hHeld.alloc hHeld.size _) (fun hHeld2 => ?_)
       clear hK K
       try simp only [Act.put, sA, s0, s1]
       generalize hW2 : World.alloc WZ _ = W2
       rw [hW2] at hHeld2
       generalize hq : WZ.heap.size = q9
       have hBn : Blk W2 q9 27 (dirC 0 none 0 0 none 0 0) := by rw [← hW2, ← hq]; exact Blk.new _ _ _
       have hLn := hHeld.size
       rw [hq] at hLn
       have hDM' : DM (fun b => wr.heap.size ≤ b ∧ b ≠ q9) W2 E xa E.ls.length xc ya E.rs.length yc := by rw [← hW2]; exact ((hDM.imp (K' := (fun b => wr.heap.size ≤ b ∧ b ≠ q9)) (fun b hb hk => by first | omega | (simp only at hk ⊢; omega) | (show _ ≠ _; omega) | (show _ ∧ _; omega)))).below ((Below.refl _ WZ).alloc (Nat.le_refl _) _)
       clear hW2 hq
       exact Ks1_9_R4 q9 xa xc ya yc W2 (hHeld2) (hBn) (hLn) (hDM')
      case ks1_9_R4 =>
       intro q9 xa xc ya yc WZ hHeld hB9 hL9 hDM
       refine Go.rd (rs := [10]) ?_
       refine AllReadyH.cons (o := ⟨none, .store 27 (.tmp 6) (.tmp 21), 0, "law.go:16", #[⟨9, .data⟩, ⟨7, .data⟩, ⟨5, .chain⟩, ⟨0, .phase⟩, ⟨1, .phase⟩, ⟨2, .phase⟩, ⟨3, .phase⟩, ⟨4, .phase⟩, ⟨5, .phase⟩, ⟨6, .phase⟩, ⟨7, .phase⟩, ⟨8, .textOnly .lateStores⟩, ⟨9, .phase⟩], none⟩) rfl (fun K hK => ?_) AllReadyH.nil
       obtain ⟨W3, hQ⟩ := put_row (ty := 27) hB9 (x := dirC E.priv xa E.ls.length xc ya E.rs.length yc) (rfl) (sizeDr) (dr_one _ _ _ _ _ _ _)
       have hHeld2 := below_grown hHeld hQ.grown hHeld.size hL9
       rw [if_pos (by rfl)]
       refine wp_store_mid 27 _ _ rfl q9 0 (dirC E.priv xa E.ls.length xc ya E.rs.length yc : List Value).toArray (by rfl) (by rfl) hQ.there hQ.info (by simpa using hQ.one) ?_
       generalize hWq : World.setCells _ _ _ _ = Wa
       obtain rfl : W3 = Wa := by rw [← hWq]; exact hQ.eq
       clear hWq
       refine hK.out _ _ hHeld2 (fun _ => ?_)
       clear hK K
       try simp only [Act.put]
       refine tkq (i := 11) (oi := ⟨some 7, .assign (.tmp 22), 45, "law.go:16", #[⟨8, .data⟩, ⟨10, .chain⟩, ⟨0, .phase⟩, ⟨1, .phase⟩, ⟨2, .phase⟩, ⟨3, .phase⟩, ⟨4, .phase⟩, ⟨5, .phase⟩, ⟨6, .phase⟩, ⟨7, .phase⟩, ⟨8, .phase⟩, ⟨9, .phase⟩, ⟨10, .phase⟩], none⟩) rfl hHeld2 ?_
       refine wpAnyH_done (by kernel_rfl) ?_ _
       exact KfinR4 q9 xa xc ya yc W3 (hHeld2) (hQ.blk) (hL9) (hDM.keep (Keeps.grown hQ.grown (fun b hb => hb.2)))
      case kfinR4 =>
       intro q9 xa xc ya yc WZ hHeld hB9 hL9 hDM
       have hbW := Lib.hid (hbr.out.trans (hHeld.mono (by omega)))
       have hBW := Lib.hid (hB.out.below hHeld hB.out.lt)
       have hXW := Lib.hid (hXb.out.below hHeld hXb.out.lt)
       have hq9 := Lib.hid hB9
       have hDW : Hid (DM (fun b => (K b ∧ b < tb) ∨ xb < b) WZ E xa E.ls.length xc ya E.rs.length yc) := hDM.imp (fun b _ h => .inr (by have := h.1; omega))
       clear hHeld hB9 hDM
       go_upto_region 7 with fail
       obtain ⟨V8, hP8⟩ := put_row (ty := 27) hBW.out (x := dirC E.priv xa E.ls.length xc ya E.rs.length yc) rfl sizeDr (dr_one _ _ _ _ _ _ _)
       have hP8' := Lib.hid hP8
       have hB8 := Lib.hid hP8.blk
       have hX8 := Lib.hid (hXW.out.grown hP8.grown (by intro e; injection e; omega))
       have hD8 : Hid (DM (fun b => (K b ∧ b < tb) ∨ xb < b) V8 E xa E.ls.length xc ya E.rs.length yc) := (hDW.out).keep (Keeps.grown hP8.grown (fun b hb e => by omega))
       have hb8 := Lib.hid (below_grown hbW.out hP8.grown (by have := hbW.out.size; omega) (Nat.le_refl _))
       have hg8 : Hid (Go.Dr.grownD 4 E (l.drop (k + 1)) = G) := hgr3
       have y0 := hq9.out.at_ (i := 0) (x := .int .i64 E.priv) rfl
       have y1 := hq9.out.at_ (i := 1) (x := .slice xa E.ls.length xc) rfl
       have y2 := hq9.out.at_ (i := 2) (x := .slice ya E.rs.length yc) rfl
       clear hP8 hBW hXW hbW hDW
       go_wp2_with (first
        | (refine wpList_store_mid (by rfl) 27 (.tmp 2) (.tmp 32) (by rfl) tb 0 (dirC E.priv xa E.ls.length xc ya E.rs.length yc).toArray (by rfl) (by rfl) hP8'.out.there hP8'.out.info (by simpa using hP8'.out.one) ?_
           generalize hWq : World.setCells _ _ _ _ = Wa
           obtain rfl : V8 = Wa := by rw [← hWq]; exact hP8'.out.eq
           clear hWq))
       go_roundw
       case rel => exact ⟨k + 1, E, xa, xc, ya, yc, by omega, by go_num, hB8, hX8, hD8, hg8, hb8⟩
       case measure => simp [intOf]; omega
    · obtain ⟨q, hq⟩ : ∃ q, Hid ((Go.Dr.setD 4 D2 x).2 = q) := ⟨_, rfl⟩
      have hq0 : q ≠ 0 := by rw [← hq.out]; exact hs0
      have hE : Go.Dr.setD 4 D2 x = ((Go.Dr.setD 4 D2 x).1, q) := by rw [← hq.out]
      have hgT : Go.Dr.growS 4 D2 x = if (Go.Dr.tickD 4 D2).2 = 0 then (Go.Dr.tickD 4 D2).1 else D2 := by unfold Go.Dr.growS; rw [if_neg hs0]
      rw [hgT] at hgr2
      have hqe : (q == 0) = false := by simpa using hq0
      have hqe2 : (q != 0) = true := by simpa using hq0
      refine share (G := ∀ (q9 : Nat) (WZ : World), (Below wr.heap.size wr WZ) → (Blk WZ q9 27 (zdV)) → (wr.heap.size ≤ q9) → (?GfinR4b : Nat → World → Prop) q9 WZ) ?hfinR4b ?kfinR4b
      case' hfinR4b =>
       intro KfinR4b
      case' hfinR4b =>
       refine share (G := ∀ (q9 : Nat) (WZ : World), (Below wr.heap.size wr WZ) → (Blk WZ q9 27 (dirC 0 none 0 0 none 0 0)) → (wr.heap.size ≤ q9) → (?Gs1_9_R4b : Nat → World → Prop) q9 WZ) ?hs1_9_R4b ?ks1_9_R4b
      case' hs1_9_R4b => intro Ks1_9_R4b
      case' hs1_9_R4b =>
       refine share (G := ∀ (WZ : World), (Below wr.heap.size wr WZ) → (?Gs1_R4b : World → Prop) WZ) ?hs1_R4b ?ks1_R4b
      case' hs1_R4b => intro Ks1_R4b
      case' hs1_R4b =>
       refine share (G := ∀ (q9 : Nat) (WZ : World), (Below wr.heap.size wr WZ) → (Blk WZ q9 27 (dirC 0 none 0 0 none 0 0)) → (wr.heap.size ≤ q9) → (?Gs0_9_R4b : Nat → World → Prop) q9 WZ) ?hs0_9_R4b ?ks0_9_R4b
      case' hs0_9_R4b => intro Ks0_9_R4b
      case hs0_9_R4b =>
       refine wp_region_held_drew (S := fun wz => Below wr.heap.size wr wz) (by kernel_rfl) ((Below.refl _ wr).drew) (fun hHeld => ?_)
       generalize wr.drew = WZ at *
       refine tk (i := 0) (oi := ⟨some 15, .load 27 (.tmp 2), 27, "law.go:16", #[], none⟩) (v := ?_) rfl (Or.inl ⟨by rfl, ?_⟩) hHeld ?_
       rotate_left
       · intro wz hSw
         have q0 := (hB.out.below hSw hB.out.lt).at_ (i := 0) (x := .int .i64 D2.priv) rfl
         have q1 := (hB.out.below hSw hB.out.lt).at_ (i := 1) (x := .slice la D2.ls.length lc) rfl
         have q2 := (hB.out.below hSw hB.out.lt).at_ (i := 2) (x := .slice ra D2.rs.length rc) rfl
         go_simp
         all_goals (with_reducible rfl)
       try simp only [Act.put, sA, s0, s1]
       refine tkq (i := 1) (oi := ⟨some 16, .move (.tmp 1), 22, "law.go:16", #[], none⟩) rfl hHeld ?_
       refine tkq (i := 2) (oi := ⟨some 17, .move (.tmp 5), 3, "law.go:16", #[], none⟩) rfl hHeld ?_
       refine tk (i := 3) (oi := ⟨some 18, .indexAddr 22 (.tmp 16) (.tmp 17), 0, "law.go:16", #[⟨1, .data⟩, ⟨2, .data⟩], none⟩) (v := ?_) rfl (Or.inl ⟨by rfl, ?_⟩) hHeld ?_
       rotate_left
       · intro wz hSw
         have k0' := k0
         have k1' := k1
         go_simp
         all_goals (with_reducible rfl)
       try simp only [Act.put, sA, s0, s1]
       refine tk (i := 4) (oi := ⟨some 19, .load 57 (.tmp 18), 57, "law.go:16", #[⟨3, .data⟩], none⟩) (v := ?_) rfl (Or.inl ⟨by rfl, ?_⟩) hHeld ?_
       rotate_left
       · intro wz hSw
         have l0 : wz.cell? ⟨b, off + k * 5, none⟩ = some (.int .i64 x.dev) := hxc0.out wz hSw
         have l1 : wz.cell? ⟨b, off + k * 5 + 1, none⟩ = some (.int .i64 x.ver) := hxc1.out wz hSw
         have l2 : wz.cell? ⟨b, off + k * 5 + 2, none⟩ = some (.int .i64 x.leaf) := hxc2.out wz hSw
         have l3 : wz.cell? ⟨b, off + k * 5 + 3, none⟩ = some (.int .i64 x.vers) := hxc3.out wz hSw
         have l4 : wz.cell? ⟨b, off + k * 5 + 4, none⟩ = some (.bool x.gone) := hxc4.out wz hSw
         go_simp
         all_goals (with_reducible rfl)
       try simp only [Act.put, sA, s0, s1]
       refine Go.rd (rs := [5, 9]) ?_
       refine Go.rc (o := ⟨some 20, .call { callee := .value (.func 22), args := #[.tmp 15, .tmp 19], argTypes := #[27, 57] }, 60, "law.go:16", #[⟨0, .data⟩, ⟨4, .data⟩], none⟩) rfl (fun K hK => ?_) (Go.rc (o := ⟨some 6, .alloc 27, 0, "law.go:16", #[], none⟩) rfl (fun K hK => ?_) Go.rn)
       case refine_1 =>
        go_simp
        go_at_call 22
        refine (set_no hE hq0 hox.out (hTw.out _ (hbr.out.trans (hHeld.mono (by omega)))) ((hD.out.below hHeld).imp (fun _ _ _ => trivial))).mono ?_
        rintro e wq ⟨rfl, hst⟩


        refine hK.out _ _ (hHeld.trans (hst.mono hHeld.size)) (fun hHeld2 => ?_)
        clear hK K
        try simp only [Act.put, sA, s0, s1]
        refine tkq (i := 6) (oi := ⟨some 14, .move (.tmp 20), 60, "law.go:16", #[⟨5, .data⟩], none⟩) rfl hHeld2 ?_
        refine tkq (i := 7) (oi := ⟨some 21, .extract (.tmp 14) 0, 27, "law.go:16", #[⟨6, .data⟩], none⟩) rfl hHeld2 ?_
        refine tkq (i := 8) (oi := ⟨some 22, .extract (.tmp 14) 1, 45, "law.go:16", #[⟨6, .data⟩, ⟨10, .gcOnly .lateStores⟩], none⟩) rfl hHeld2 ?_
        exact Ks1_R4b  wq (hHeld2)
       case refine_2 =>
        go_simp
        refine hK.out _ _ (hHeld.alloc hHeld.size _) (fun hHeld2 => ?_)
        clear hK K
        try simp only [Act.put, sA, s0, s1]
        generalize hW2 : World.alloc WZ _ = W2
        rw [hW2] at hHeld2
        generalize hq : WZ.heap.size = q9
        have hBn : Blk W2 q9 27 (dirC 0 none 0 0 none 0 0) := by rw [← hW2, ← hq]; exact Blk.new _ _ _
        have hLn := hHeld.size
        rw [hq] at hLn
        clear hW2 hq
        exact Ks0_9_R4b q9 W2 (hHeld2) (hBn) (hLn)
      case ks0_9_R4b =>
       intro q9 WZ hHeld hB9 hL9
       refine Go.rd (rs := [5]) ?_
       refine Go.rc (o := ⟨some 20, .call { callee := .value (.func 22), args := #[.tmp 15, .tmp 19], argTypes := #[27, 57] }, 60, "law.go:16", #[⟨0, .data⟩, ⟨4, .data⟩], none⟩) rfl (fun K hK => ?_) Go.rn
       go_simp
       go_at_call 22
       refine (set_no hE hq0 hox.out (hTw.out _ (hbr.out.trans (hHeld.mono (by omega)))) ((hD.out.below hHeld).imp (fun _ _ _ => trivial))).mono ?_
       rintro e wq ⟨rfl, hst⟩


       refine hK.out _ _ (hHeld.trans (hst.mono hHeld.size)) (fun hHeld2 => ?_)
       clear hK K
       try simp only [Act.put, sA, s0, s1]
       refine tkq (i := 6) (oi := ⟨some 14, .move (.tmp 20), 60, "law.go:16", #[⟨5, .data⟩], none⟩) rfl hHeld2 ?_
       refine tkq (i := 7) (oi := ⟨some 21, .extract (.tmp 14) 0, 27, "law.go:16", #[⟨6, .data⟩], none⟩) rfl hHeld2 ?_
       refine tkq (i := 8) (oi := ⟨some 22, .extract (.tmp 14) 1, 45, "law.go:16", #[⟨6, .data⟩, ⟨10, .gcOnly .lateStores⟩], none⟩) rfl hHeld2 ?_
       exact Ks1_9_R4b q9 wq (hHeld2) (hB9.below hst hB9.lt) (hL9)
      case ks1_R4b =>
       intro  WZ hHeld
       refine Go.rd (rs := [9]) ?_
       refine Go.rc (o := ⟨some 6, .alloc 27, 0, "law.go:16", #[], none⟩) rfl (fun K hK => ?_) Go.rn
       go_simp
       refine hK.out _ _ (hHeld.alloc hHeld.size _) (fun hHeld2 => ?_)
       clear hK K
       try simp only [Act.put, sA, s0, s1]
       generalize hW2 : World.alloc WZ _ = W2
       rw [hW2] at hHeld2
       generalize hq : WZ.heap.size = q9
       have hBn : Blk W2 q9 27 (dirC 0 none 0 0 none 0 0) := by rw [← hW2, ← hq]; exact Blk.new _ _ _
       have hLn := hHeld.size
       rw [hq] at hLn
       clear hW2 hq
       exact Ks1_9_R4b q9 W2 (hHeld2) (hBn) (hLn)
      case ks1_9_R4b =>
       intro q9 WZ hHeld hB9 hL9
       refine Go.rd (rs := [10]) ?_
       refine AllReadyH.cons (o := ⟨none, .store 27 (.tmp 6) (.tmp 21), 0, "law.go:16", #[⟨9, .data⟩, ⟨7, .data⟩, ⟨5, .chain⟩, ⟨0, .phase⟩, ⟨1, .phase⟩, ⟨2, .phase⟩, ⟨3, .phase⟩, ⟨4, .phase⟩, ⟨5, .phase⟩, ⟨6, .phase⟩, ⟨7, .phase⟩, ⟨8, .textOnly .lateStores⟩, ⟨9, .phase⟩], none⟩) rfl (fun K hK => ?_) AllReadyH.nil
       obtain ⟨W3, hQ⟩ := put_row (ty := 27) hB9 (x := zdV) (rfl) (sizeDr) (dr_one _ _ _ _ _ _ _)
       have hHeld2 := below_grown hHeld hQ.grown hHeld.size hL9
       rw [if_pos (by rfl)]
       refine wp_store_mid 27 _ _ rfl q9 0 (zdV : List Value).toArray (by rfl) (by rfl) hQ.there hQ.info (by simpa using hQ.one) ?_
       generalize hWq : World.setCells _ _ _ _ = Wa
       obtain rfl : W3 = Wa := by rw [← hWq]; exact hQ.eq
       clear hWq
       refine hK.out _ _ hHeld2 (fun _ => ?_)
       clear hK K
       try simp only [Act.put]
       refine tkq (i := 11) (oi := ⟨some 7, .assign (.tmp 22), 45, "law.go:16", #[⟨8, .data⟩, ⟨10, .chain⟩, ⟨0, .phase⟩, ⟨1, .phase⟩, ⟨2, .phase⟩, ⟨3, .phase⟩, ⟨4, .phase⟩, ⟨5, .phase⟩, ⟨6, .phase⟩, ⟨7, .phase⟩, ⟨8, .phase⟩, ⟨9, .phase⟩, ⟨10, .phase⟩], none⟩) rfl hHeld2 ?_
       refine wpAnyH_done (by kernel_rfl) ?_ _
       exact KfinR4b q9 W3 (hHeld2) (hQ.blk) (hL9)
      case kfinR4b =>
       intro q9 WZ hHeld hB9 hL9
       have hbW := Lib.hid (hbr.out.trans (hHeld.mono (by omega)))
       have hBW := Lib.hid (hB.out.below hHeld hB.out.lt)
       have hXW := Lib.hid (hXb.out.below hHeld hXb.out.lt)
       have hDW := Lib.hid (hD.out.below hHeld)
       have hKp : Keeps (fun b => ((K b ∧ b < tb) ∨ xb < b) ∧ b < wr.heap.size) wr WZ := Keeps.below hHeld
       have hq9 := Lib.hid hB9
       have y0 := hBW.out.at_ (i := 0) (x := .int .i64 D2.priv) rfl
       have y1 := hBW.out.at_ (i := 1) (x := .slice la D2.ls.length lc) rfl
       have y2 := hBW.out.at_ (i := 2) (x := .slice ra D2.rs.length rc) rfl
       clear hHeld hB9
       go_wp2_with fail
       by_cases ht0 : (Go.Dr.tickD 4 D2).2 = 0
       · obtain ⟨E, hT⟩ : ∃ E, Go.Dr.tickD 4 D2 = (E, 0) := ⟨(Go.Dr.tickD 4 D2).1, by rw [← ht0]⟩
         obtain ⟨hTl1, hTp1⟩ := tick_same hT
         have hTl := Lib.hid hTl1
         have hTp := Lib.hid hTp1
         clear hTl1 hTp1
         rw [if_pos ht0, hT] at hgr2
         have hgr3 := Lib.hid hgr2
         refine (tick_at hT hTl.out hTp.out (hTw.out _ hbW.out) (hDW.out.imp (fun _ _ _ => trivial))).mono ?_
         rintro e w8 ⟨ya, yc, rfl, hQ0, hst⟩
         have hst2 : Below WZ.heap.size WZ w8 := hst
         have hDE : DM (fun b => (K b ∧ b < tb) ∨ xb < b) w8 E la E.ls.length lc ya E.rs.length yc := ⟨by rw [hTp.out]; exact hDW.out.pr, by rw [hTl.out]; exact hDW.out.gs.below hst, hQ0.imp (fun b _ hb => .inr (by have := hXW.out.lt; omega))⟩
         obtain ⟨V9, hP9⟩ := put_row (ty := 27) (hq9.out.below hst hq9.out.lt) (x := dirC E.priv la E.ls.length lc ya E.rs.length yc) rfl sizeDr (dr_one _ _ _ _ _ _ _)
         have hP9' := Lib.hid hP9
         have hDE9 : DM (fun b => (K b ∧ b < tb) ∨ xb < b) V9 E la E.ls.length lc ya E.rs.length yc := ⟨hDE.pr, by rw [hTl.out]; exact ((hD.out.gs.imp (K' := fun b => ((K b ∧ b < tb) ∨ xb < b) ∧ b < wr.heap.size) (fun b hb h => ⟨h, hb⟩)).keep (hKp.trans ((Keeps.below hst2).trans (Keeps.grown hP9.grown (fun b hb e => by have := hb.2; omega))))).imp (fun b _ h => h.1), (hQ0.keep (Keeps.grown hP9.grown (fun b hb e => by have := hq9.out.lt; omega))).imp (fun b _ hb => .inr (by have := hXW.out.lt; omega))⟩
         replace hbW := Lib.hid (below_grown (hbW.out.trans (hst.mono (by have := hXW.out.lt; omega))) hP9.grown (by have := hbW.out.size; have := hst.size; have := hXW.out.lt; omega) (by omega))
         replace hBW := Lib.hid ((hBW.out.below hst hBW.out.lt).grown hP9.grown (by intro e; injection e; omega))
         replace hXW := Lib.hid ((hXW.out.below hst hXW.out.lt).grown hP9.grown (by intro e; injection e; omega))
         replace hq9 := Lib.hid hP9.blk
         replace hDW := Lib.hid hDE9
         clear hP9 hst hDE hDE9 hQ0 y0 y1 y2 hgr2 hqe hqe2
         go_upto_region 7 with (first
          | (refine wpList_store_mid (by rfl) 27 (.tmp 6) (.tmp 28) (by rfl) q9 0 (dirC E.priv la E.ls.length lc ya E.rs.length yc).toArray (by rfl) (by rfl) hP9'.out.there hP9'.out.info (by simpa using hP9'.out.one) ?_
             generalize hWq : World.setCells _ _ _ _ = Wa
             obtain rfl : V9 = Wa := by rw [← hWq]; exact hP9'.out.eq
             clear hWq))
         obtain ⟨V8, hP8⟩ := put_row (ty := 27) hBW.out (x := dirC E.priv la E.ls.length lc ya E.rs.length yc) rfl sizeDr (dr_one _ _ _ _ _ _ _)
         have hP8' := Lib.hid hP8
         have hB8 := Lib.hid hP8.blk
         have hX8 := Lib.hid (hXW.out.grown hP8.grown (by intro e; injection e; omega))
         have hD8 : Hid (DM (fun b => (K b ∧ b < tb) ∨ xb < b) V8 E la E.ls.length lc ya E.rs.length yc) := (hDW.out).keep (Keeps.grown hP8.grown (fun b hb e => by omega))
         have hb8 := Lib.hid (below_grown hbW.out hP8.grown (by have := hbW.out.size; omega) (Nat.le_refl _))
         have hg8 : Hid (Go.Dr.grownD 4 E (l.drop (k + 1)) = G) := hgr3
         have y0 := hq9.out.at_ (i := 0) (x := .int .i64 E.priv) rfl
         have y1 := hq9.out.at_ (i := 1) (x := .slice la E.ls.length lc) rfl
         have y2 := hq9.out.at_ (i := 2) (x := .slice ya E.rs.length yc) rfl
         clear hP8 hBW hXW hbW hDW
         go_wp2_with (first
          | (refine wpList_store_mid (by rfl) 27 (.tmp 2) (.tmp 32) (by rfl) tb 0 (dirC E.priv la E.ls.length lc ya E.rs.length yc).toArray (by rfl) (by rfl) hP8'.out.there hP8'.out.info (by simpa using hP8'.out.one) ?_
             generalize hWq : World.setCells _ _ _ _ = Wa
             obtain rfl : V8 = Wa := by rw [← hWq]; exact hP8'.out.eq
             clear hWq))
         go_roundw
         case rel => exact ⟨k + 1, E, la, lc, ya, yc, by omega, by go_num, hB8, hX8, hD8, hg8, hb8⟩
         case measure => simp [intOf]; omega
       · obtain ⟨q2, hq2⟩ : ∃ q, Hid ((Go.Dr.tickD 4 D2).2 = q) := ⟨_, rfl⟩
         have hq20 : q2 ≠ 0 := by rw [← hq2.out]; exact ht0
         have hT : Go.Dr.tickD 4 D2 = ((Go.Dr.tickD 4 D2).1, q2) := by rw [← hq2.out]
         rw [if_neg ht0] at hgr2
         have hgr3 : Hid (Go.Dr.grownD 4 D2 (l.drop (k + 1)) = G) := hgr2
         have hq2e : (q2 == 0) = false := by simpa using hq20
         refine (tick_no hT hq20 (hTw.out _ hbW.out) (hDW.out.imp (fun _ _ _ => trivial))).mono ?_
         rintro e w8 ⟨rfl, hst⟩
         have hst2 : Below WZ.heap.size WZ w8 := hst
         obtain ⟨V9, hP9⟩ := put_row (ty := 27) (hq9.out.below hst hq9.out.lt) (x := zdV) rfl sizeDr (dr_one _ _ _ _ _ _ _)
         have hP9' := Lib.hid hP9
         have hDE9 : DM (fun b => (K b ∧ b < tb) ∨ xb < b) V9 D2 la D2.ls.length lc ra D2.rs.length rc := ((hD.out.imp (K' := fun b => ((K b ∧ b < tb) ∨ xb < b) ∧ b < wr.heap.size) (fun b hb h => ⟨h, hb⟩)).keep (hKp.trans ((Keeps.below hst2).trans (Keeps.grown hP9.grown (fun b hb e => by have := hb.2; omega))))).imp (fun b _ h => h.1)
         replace hbW := Lib.hid (below_grown (hbW.out.trans (hst.mono (by have := hXW.out.lt; omega))) hP9.grown (by have := hbW.out.size; have := hst.size; have := hXW.out.lt; omega) (by omega))
         replace hBW := Lib.hid ((hBW.out.below hst hBW.out.lt).grown hP9.grown (by intro e; injection e; omega))
         replace hXW := Lib.hid ((hXW.out.below hst hXW.out.lt).grown hP9.grown (by intro e; injection e; omega))
         have hDW9 := Lib.hid hDE9
         clear hP9 hst hDE9 y0 y1 y2 hgr2 hqe hqe2 hDW
         go_wp2_with (first
          | (refine wpList_store_mid (by rfl) 27 (.tmp 6) (.tmp 28) (by rfl) q9 0 zdV.toArray (by rfl) (by rfl) hP9'.out.there hP9'.out.info (by simpa using hP9'.out.one) ?_
             generalize hWq : World.setCells _ _ _ _ = Wa
             obtain rfl : V9 = Wa := by rw [← hWq]; exact hP9'.out.eq
             clear hWq))
         go_roundw
         case rel => exact ⟨k + 1, D2, la, lc, ra, rc, by omega, by go_num, hBW, hXW, hDW9, hgr3, hbW⟩
         case measure => simp [intOf]; omega
  · obtain rfl : k = n := by omega
    have hgE : D2 = G := by rw [← hgr.out, List.drop_of_length_le (by omega)]; rfl
    subst hgE
    obtain ⟨V9, hP9⟩ := put_row (ty := 27) hXb.out (x := dirC D2.priv la D2.ls.length lc ra D2.rs.length rc) rfl sizeDr (dr_one _ _ _ _ _ _ _)
    have hP9' := Lib.hid hP9
    have hD9 : DM (fun b => (K b ∧ b < tb) ∨ tb ≤ b) V9 D2 la D2.ls.length lc ra D2.rs.length rc := (hD.out.keep (Keeps.grown hP9.grown (fun b hb e => by omega))).imp (fun b _ hb => hb.imp id (fun h => by omega))
    have hend := Lib.hid (hfin.out _ _ _ _ _ hD9 (below_grown hbr.out hP9.grown (by have := hbr.out.size; omega) (by omega)))
    have y0 := hB.out.at_ (i := 0) (x := .int .i64 D2.priv) rfl
    have y1 := hB.out.at_ (i := 1) (x := .slice la D2.ls.length lc) rfl
    have y2 := hB.out.at_ (i := 2) (x := .slice ra D2.rs.length rc) rfl
    clear hP9 hD9 hgr hfin
    go_wp2_with (first
     | (refine wpList_store_mid (by rfl) 27 (.tmp 4) (.tmp 33) (by rfl) xb 0 (dirC D2.priv la D2.ls.length lc ra D2.rs.length rc).toArray (by rfl) (by rfl) hP9'.out.there hP9'.out.info (by simpa using hP9'.out.one) ?_
        generalize hWq : World.setCells _ _ _ _ = Wa
        obtain rfl : V9 = Wa := by rw [← hWq]; exact hP9'.out.eq
        clear hWq))
    exact ret_cell (p := 4) rfl hP9'.out.blk Tryz.underlying27 rfl sizeDr rfl rfl hend.out
end Go.Proofs.YthnfjkgiaanmhaaGreatDoor
namespace Go.Proofs.YthnfjkgiaanmhaaGreatDoor
open Go.RowKit Go.Mem
open Go.Dr (Lst Rt Dir Wt)

def SeenPost (y : Wt × Bool) (w : World) (e : Ending) (w' : World) : Prop := ∃ a n c, e = .returned (.tuple #[.agg (wtC y.1.pub a n c).toArray, .bool y.2]) ∧ WM (fun _ => True) w' y.1 a n c ∧ Below w.heap.size w w'

theorem acc_okS {V V3 : Wt} {r : Rt} {s3 : Rt × Rt} {q3 : Int} (h : ∀ x ∈ V.rs, OkQ x) (hr : OkQ r) (hy : Go.Dr.accW 4 V r = (V3, s3, q3)) : OkS s3 := by
 rcases Go.Dr.acc_cases 4 V r with ⟨e, _⟩ | ⟨_, _, _, e⟩ | ⟨_, _, _, e⟩
 · rw [hy] at e; cases e; exact okZS
 · rw [hy] at e; cases e; exact confl_ok' h hr
 · rw [hy] at e; simp only [Prod.mk.injEq] at e; rw [e.1]; exact okZS

set_option maxRecDepth 20000 in
set_option maxHeartbeats 8000000 in
theorem seen_any (K : Nat → Prop) (pub : Int) (hp : I64 pub) (R : List Rt) (a : Option Addr) (n c : Nat) (ba : Option Addr) (m bc : Nat) (bl : List Nat) (w : World) (HT : Tabs w) (H : QS K w a n c R) (HB : BW w ba m bc bl) :
 Calls Tryz.prog 11 #[.int .i64 pub, .slice a n c, .slice ba m bc] w (SeenPost (Go.Dr.seenW 4 R ⟨pub, []⟩ bl) w) := by
 have HT' := Lib.hid HT
 have hlen := RS.len H
 have hlb := HB.len
 have n63 : (n : Int) ≤ 9223372036854775807 := by have := RS.le H; have := RS.max H; omega
 have m63 : (m : Int) ≤ 9223372036854775807 := HB.elim (fun h => by have := h.le; have := h.max; omega) (fun h => by have := h.1; omega)
 obtain ⟨xb, hxb⟩ : ∃ tb, Hid (w.heap.size = tb) := ⟨_, rfl⟩
 have hTw : Hid (∀ W, Below xb w W → Tabs W) := fun W h => HT'.out.below (by rw [hxb.out]; exact h)
 have hRw : Hid (∀ W, Below xb w W → QS K W a n c R) := fun W h => H.below (by rw [hxb.out]; exact h)
 have hBw : Hid (∀ W, Below xb w W → BW W ba m bc bl) := fun W h => HB.below (by rw [hxb.out]; exact h)
 obtain ⟨W0, hW0⟩ : ∃ W, Hid (w.alloc (.cells (wtC 0 none 0 0).toArray 32) = W) := ⟨_, rfl⟩
 have hX0 : Hid (Blk W0 xb 32 (wtC 0 none 0 0)) := by rw [← hW0.out, ← hxb.out]; exact Blk.new w _ _
 have hb0 : Hid (Below xb w W0) := by rw [← hW0.out, ← hxb.out]; exact (Below.refl _ w).alloc (Nat.le_refl _) _
 obtain ⟨Y, hY⟩ : ∃ Y, Hid (Go.Dr.seenW 4 R ⟨pub, []⟩ bl = Y) := ⟨_, rfl⟩
 have hY' := hY.out
 rw [hY']
 obtain ⟨X, hX⟩ : ∃ X, X = SeenPost Y w := ⟨_, rfl⟩
 have hfin : Hid (∀ y a n c W, Y = y → WM (fun _ => True) W y.1 a n c → Below xb w W → X (.returned (.tuple #[.agg (wtC y.1.pub a n c).toArray, .bool y.2])) W) := fun y a n c W h1 h2 h3 => by rw [hX, h1]; exact ⟨a, n, c, rfl, h2, by rw [hxb.out]; exact h3⟩
 rw [← hX]
 clear hX H HB HT HT' hY'
 have hp' := Lib.hid hp
 have hws : w.heap.size = xb := hxb.out
 have hwsq := Lib.hid hws
 clear hws hp
 go_enter Tryz.func11, Tryz.ntmps11
 go_upto_region 1 with fail
 rw [hxb.out]
 generalize hWz : World.alloc _ _ = Wz
 obtain rfl : W0 = Wz := by rw [← hWz]; exact hW0.out.symm
 clear hWz hW0
 go_wp2_with fail
 refine (gnew_any pub _).mono ?_
 rintro e w1 ⟨rfl, hst⟩
 have hx0l : xb < W0.heap.size := hX0.out.lt
 have hb1 := Lib.hid (hb0.out.trans (hst.mono (by omega)))
 have hX1 := Lib.hid (hX0.out.below hst hX0.out.lt)
 clear hst hb0 hX0
 obtain ⟨v2, hP⟩ : ∃ V, Hid (PutR 32 (w1.alloc (.cells (wtC 0 none 0 0 : List Value).toArray 32)) V w1.heap.size 32 (wtC pub none 0 0)) := put_row (Blk.new w1 32 (wtC 0 none 0 0 : List Value)) rfl (sizeWt) (wt_one _ _ _ _)
 have hst := below_grown ((Below.refl _ w1).alloc (Nat.le_refl _) _) hP.out.grown (by simp) (Nat.le_refl _)
 have hb2 := Lib.hid (hb1.out.trans (hst.mono (by have := hX1.out.lt; omega)))
 have hX2 := Lib.hid (hX1.out.below hst hX1.out.lt)
 obtain ⟨vb, hvb⟩ : ∃ db, Hid (w1.heap.size = db) := ⟨_, rfl⟩
 have hxv : xb < vb := by have := hX1.out.lt; have := hvb.out; omega
 have hV2' := hP.out.blk
 rw [hvb.out] at hV2'
 have hV2 := Lib.hid hV2'
 have hM2 : Hid (WM (fun b => b ≠ xb ∧ b ≠ vb) v2 ⟨pub, []⟩ none 0 0) := ⟨hp'.out, RS.nil0 _ _ _⟩
 clear hst hb1 hX1 hV2'
 go_wp2_with (first
  | (refine wpList_store_mid (by rfl) 32 (.tmp 8) (.tmp 14) (by rfl) w1.heap.size 0 (wtC pub none 0 0).toArray (by rfl) (by rfl) hP.out.there hP.out.info (by simpa using hP.out.one) ?_
     generalize hWq : World.setCells _ _ _ _ = Wa
     obtain rfl : v2 = Wa := by rw [← hWq]; exact hP.out.eq
     clear hWq
     rw [hvb.out]))
 clear hP
 go_loopw [9] (fun i wr => ∃ (k : Nat) (V2 : Wt) (a2 : Option Addr) (n2 c2 : Nat), k ≤ m ∧ i = .int .i64 (k : Int) ∧ Hid (Blk wr vb 32 (wtC V2.pub a2 n2 c2)) ∧ Hid (Blk wr xb 32 (wtC 0 none 0 0)) ∧ Hid (WM (fun b => b ≠ xb ∧ b ≠ vb) wr V2 a2 n2 c2) ∧ Hid (Go.Dr.seenW 4 R V2 (bl.drop k) = Y) ∧ Hid (Below xb w wr)) (fun i _ => m - (intOf i).toNat)
 case atStart => exact ⟨0, ⟨pub, []⟩, none, 0, 0, Nat.zero_le _, rfl, hV2, hX2, hM2, hY, hb2⟩
 case round =>
  obtain ⟨k, V2, a2, n2, c2, hk, rfl, hVb, hXb, hWM0, hgo, hbr⟩ := hrel
  have hxl : xb < wr.heap.size := hXb.out.lt
  have hvl : vb < wr.heap.size := hVb.out.lt
  have hwsx : w.heap.size = xb := hwsq.out
  by_cases hlt : k < m
  rotate_left
  · obtain rfl : k = m := by omega
    have hres : Hid (Y = (V2, true)) := by show _ = _; rw [← hgo.out, List.drop_of_length_le (by omega)]; rfl
    clear hgo hwsx
    obtain ⟨V9, hP9⟩ := put_row (ty := 32) hXb.out (x := wtC V2.pub a2 n2 c2) rfl sizeWt (wt_one _ _ _ _)
    have hP9' := Lib.hid hP9
    have hM9 : WM (fun _ => True) V9 V2 a2 n2 c2 := (hWM0.out.keep (Keeps.grown hP9.grown (fun b hb e => by omega))).imp (fun _ _ _ => trivial)
    have hend := Lib.hid (hfin.out (V2, true) _ _ _ _ hres.out hM9 (below_grown hbr.out hP9.grown (by have := hbr.out.size; omega) (by omega)))
    have y0 := hVb.out.at_ (i := 0) (x := .int .i64 V2.pub) rfl
    have y1 := hVb.out.at_ (i := 1) (x := .slice a2 n2 c2) rfl
    clear hP9 hM9 hfin hres
    go_wp2_with (first
     | (refine wpList_store_mid (by rfl) 32 (.tmp 6) (.tmp 47) (by rfl) xb 0 (wtC V2.pub a2 n2 c2).toArray (by rfl) (by rfl) hP9'.out.there hP9'.out.info (by simpa using hP9'.out.one) ?_
        generalize hWq : World.setCells _ _ _ _ = Wa
        obtain rfl : V9 = Wa := by rw [← hWq]; exact hP9'.out.eq
        clear hWq))
    exact ret_cell_tmp (p := 6) (u := 7) rfl hP9'.out.blk Tryz.underlying32 rfl sizeWt rfl rfl rfl hend.out
  by_cases hn0 : n = 0
  · subst hn0
    obtain rfl : R = [] := List.eq_nil_of_length_eq_zero hlen
    have hkl : k < bl.length := by omega
    have hres : Hid (Y = (V2, true)) := by show _ = _; rw [← hgo.out, List.drop_eq_getElem_cons hkl, Go.Dr.seenW]; rfl
    clear hgo hkl hwsx
    obtain ⟨V9, hP9⟩ := put_row (ty := 32) hXb.out (x := wtC V2.pub a2 n2 c2) rfl sizeWt (wt_one _ _ _ _)
    have hP9' := Lib.hid hP9
    have hM9 : WM (fun _ => True) V9 V2 a2 n2 c2 := (hWM0.out.keep (Keeps.grown hP9.grown (fun b hb e => by omega))).imp (fun _ _ _ => trivial)
    have hend := Lib.hid (hfin.out (V2, true) _ _ _ _ hres.out hM9 (below_grown hbr.out hP9.grown (by have := hbr.out.size; omega) (by omega)))
    have y0 := hVb.out.at_ (i := 0) (x := .int .i64 V2.pub) rfl
    have y1 := hVb.out.at_ (i := 1) (x := .slice a2 n2 c2) rfl
    clear hP9 hM9 hfin hres
    go_wp2_with (first
     | (refine wpList_store_mid (by rfl) 32 (.tmp 6) (.tmp 47) (by rfl) xb 0 (wtC V2.pub a2 n2 c2).toArray (by rfl) (by rfl) hP9'.out.there hP9'.out.info (by simpa using hP9'.out.one) ?_
        generalize hWq : World.setCells _ _ _ _ = Wa
        obtain rfl : V9 = Wa := by rw [← hWq]; exact hP9'.out.eq
        clear hWq))
    exact ret_cell_tmp (p := 6) (u := 7) rfl hP9'.out.blk Tryz.underlying32 rfl sizeWt rfl rfl rfl hend.out
  have hkl : k < bl.length := by omega
  obtain ⟨x, hx⟩ : ∃ x, bl[k]? = some x := ⟨_, List.getElem?_eq_getElem hkl⟩
  have hdrop : bl.drop k = x :: bl.drop (k + 1) := by rw [List.drop_eq_getElem_cons hkl, (List.getElem?_eq_some_iff.1 hx).2]
  obtain ⟨j, hj⟩ : ∃ j, Hid (x % n = j) := ⟨_, rfl⟩
  have hjn : j < n := by rw [← hj.out]; exact Nat.mod_lt _ (by omega)
  obtain ⟨r, hr⟩ : ∃ r, R[j]? = some r := ⟨_, List.getElem?_eq_getElem (by omega)⟩
  have hgo2 := hgo.out
  rw [hdrop, Go.Dr.seenW, hlen, hj.out, hr] at hgo2
  simp only at hgo2
  have hRr := hRw.out _ hbr.out
  have hBr : BS wr ba m bc bl := (hBw.out _ hbr.out).resolve_right (fun h => by have := h.1; omega)
  have hx8 : x < 256 := hBr.lt x (List.mem_of_getElem? hx)
  obtain ⟨b1, o1, rfl, hb1l, _, hor, hrg0⟩ := hRr.cells hr
  cases ba with
  | none => have := (hBr.nil rfl).1; omega
  | some bad =>
  obtain ⟨b2, o2, rfl, hb2l, hcc⟩ := hBr.cells0
  have hbc : Hid (∀ wz, Below wr.heap.size wr wz → wz.cell? ⟨b2, o2 + k, none⟩ = some (.int .u8 (x : Int))) := fun wz h => by rw [h.cell (p := ⟨b2, o2 + k, none⟩) hb2l]; exact hcc k x hx
  have hrx : Hid (∀ wz, Below wr.heap.size wr wz → wz.rangeAt b1 (o1 + j * 67) (rC r)) := fun wz h jj u hj => by rw [h.cell (p := ⟨b1, o1 + j * 67 + jj, none⟩) hb1l]; exact hrg0 jj u hj
  have hri : Hid ((Tryz.prog.info? 40).map (·.size) = some (rC r).length) := by show _ = _; rw [rC_length hor]; exact sizeR
  have hacc := Lib.hid (fun W hT hM => gaccept_any (fun b => (b ≠ xb ∧ b ≠ vb) ∧ b < wr.heap.size) V2 a2 n2 c2 r hor W hT hM)
  unfold AccPost at hacc
  obtain ⟨V3, s3, q3, hy3⟩ : ∃ V3 s3 q3, Go.Dr.accW 4 V2 r = (V3, s3, q3) := ⟨_, _, _, rfl⟩
  rw [hy3] at hacc hgo2
  have hgo3 := Lib.hid hgo2
  obtain ⟨rr, hre⟩ : ∃ rr, Hid (rC r = rr) := ⟨_, rfl⟩
  rw [hre.out] at hrx hri hacc
  by_cases hs3 : OkS s3
  rotate_left
  · exact absurd (acc_okS (hWM0.out.qs.oks) hor hy3) hs3
  have hspl : Hid ((spC s3).length = (spC Go.Dr.zeroS).length) := by show _ = _; rw [spC_length hs3, spC_length okZS]
  have hspi : Hid ((Tryz.prog.info? 42).map (·.size) = some (spC s3).length) := sizeSp' hs3
  have hsp1 := Lib.hid (spC_one s3)
  obtain ⟨sp, hsp⟩ : ∃ sp, Hid (spC s3 = sp) := ⟨_, rfl⟩
  simp only at hacc
  rw [hsp.out] at hspl hspi hsp1 hacc
  have k0 : (0 : Int) ≤ (k : Int) := by omega
  have k1 : (k : Int) < (m : Int) := by omega
  have j0 : (0 : Int) ≤ (j : Int) := by omega
  have j1 : (j : Int) < (n : Int) := by omega
  have hwx : Hid (IntKind.i64.wrap (x : Int) = (x : Int)) := by show _ = _; rw [IntKind.wrap_i64]; omega
  have hwj : Hid (IntKind.i64.wrap (j : Int) = (j : Int)) := by show _ = _; rw [IntKind.wrap_i64]; omega
  have htm : Hid (Int.tmod (x : Int) (n : Int) = (j : Int)) := by show _ = _; rw [Int.tmod_eq_emod_of_nonneg (by omega), ← hj.out]; omega
  have hne1 : ((n : Int) = 0) = False := by rw [eq_iff_iff, iff_false]; omega
  have hne2 : (n = 0) = False := by rw [eq_iff_iff, iff_false]; omega
  have hnp : decide (0 < n) = true := by simp; omega
  have hnp1 : decide ((0 : Int) < (n : Int)) = true := by simp; omega
  have hw1 := hwsq
  clear hgo hgo2 hx hr hdrop hkl hRr hBr hor hrg0 hcc hwsx
  go_upto_region 5 with fail
  clear hnp hnp1
  have hws9 : Hid (w.heap.size = xb) := hw1
  refine share (G := ∀ (q17 : Nat) (q18 : Nat) (a9 : Option Addr) (n9 : Nat) (c9 : Nat) (WZ : World), (Below wr.heap.size wr WZ) → (Blk WZ q17 32 (wtC V3.pub a9 n9 c9)) → (wr.heap.size ≤ q17) → (Blk WZ q18 42 (sp)) → (wr.heap.size ≤ q18) → (q17 ≠ q18) → (WM (fun b => (b ≠ xb ∧ b ≠ vb) ∧ b ≠ q17 ∧ b ≠ q18) WZ V3 a9 n9 c9) → (?GfinR5 : Nat → Nat → Option Addr → Nat → Nat → World → Prop) q17 q18 a9 n9 c9 WZ) ?hfinR5 ?kfinR5
  case' hfinR5 =>
   intro KfinR5
  case' hfinR5 =>
   refine share (G := ∀ (q17 : Nat) (q18 : Nat) (a9 : Option Addr) (n9 : Nat) (c9 : Nat) (WZ : World), (Below wr.heap.size wr WZ) → (Blk WZ q17 32 (wtC V3.pub a9 n9 c9)) → (wr.heap.size ≤ q17) → (Blk WZ q18 42 (spC Go.Dr.zeroS)) → (wr.heap.size ≤ q18) → (q17 ≠ q18) → (WM (fun b => (b ≠ xb ∧ b ≠ vb) ∧ b ≠ q17 ∧ b ≠ q18) WZ V3 a9 n9 c9) → (?Gs2_17_18_R5 : Nat → Nat → Option Addr → Nat → Nat → World → Prop) q17 q18 a9 n9 c9 WZ) ?hs2_17_18_R5 ?ks2_17_18_R5
  case' hs2_17_18_R5 => intro Ks2_17_18_R5
  case' hs2_17_18_R5 =>
   refine share (G := ∀ (q17 : Nat) (q18 : Nat) (a9 : Option Addr) (n9 : Nat) (c9 : Nat) (WZ : World), (Below wr.heap.size wr WZ) → (Blk WZ q17 32 (wtC 0 none 0 0)) → (wr.heap.size ≤ q17) → (Blk WZ q18 42 (spC Go.Dr.zeroS)) → (wr.heap.size ≤ q18) → (q17 ≠ q18) → (WM (fun b => (b ≠ xb ∧ b ≠ vb) ∧ b ≠ q17 ∧ b ≠ q18) WZ V3 a9 n9 c9) → (?Gs1_17_18_R5 : Nat → Nat → Option Addr → Nat → Nat → World → Prop) q17 q18 a9 n9 c9 WZ) ?hs1_17_18_R5 ?ks1_17_18_R5
  case' hs1_17_18_R5 => intro Ks1_17_18_R5
  case' hs1_17_18_R5 =>
   refine share (G := ∀ (q17 : Nat) (a9 : Option Addr) (n9 : Nat) (c9 : Nat) (WZ : World), (Below wr.heap.size wr WZ) → (Blk WZ q17 32 (wtC 0 none 0 0)) → (wr.heap.size ≤ q17) → (WM (fun b => (b ≠ xb ∧ b ≠ vb) ∧ b ≠ q17) WZ V3 a9 n9 c9) → (?Gs1_17_R5 : Nat → Option Addr → Nat → Nat → World → Prop) q17 a9 n9 c9 WZ) ?hs1_17_R5 ?ks1_17_R5
  case' hs1_17_R5 => intro Ks1_17_R5
  case' hs1_17_R5 =>
   refine share (G := ∀ (q18 : Nat) (a9 : Option Addr) (n9 : Nat) (c9 : Nat) (WZ : World), (Below wr.heap.size wr WZ) → (Blk WZ q18 42 (spC Go.Dr.zeroS)) → (wr.heap.size ≤ q18) → (WM (fun b => (b ≠ xb ∧ b ≠ vb) ∧ b ≠ q18) WZ V3 a9 n9 c9) → (?Gs1_18_R5 : Nat → Option Addr → Nat → Nat → World → Prop) q18 a9 n9 c9 WZ) ?hs1_18_R5 ?ks1_18_R5
  case' hs1_18_R5 => intro Ks1_18_R5
  case' hs1_18_R5 =>
   refine share (G := ∀ (a9 : Option Addr) (n9 : Nat) (c9 : Nat) (WZ : World), (Below wr.heap.size wr WZ) → (WM (fun b => (b ≠ xb ∧ b ≠ vb)) WZ V3 a9 n9 c9) → (?Gs1_R5 : Option Addr → Nat → Nat → World → Prop) a9 n9 c9 WZ) ?hs1_R5 ?ks1_R5
  case' hs1_R5 => intro Ks1_R5
  case' hs1_R5 =>
   refine share (G := ∀ (q17 : Nat) (q18 : Nat) (WZ : World), (Below wr.heap.size wr WZ) → (Blk WZ q17 32 (wtC 0 none 0 0)) → (wr.heap.size ≤ q17) → (Blk WZ q18 42 (spC Go.Dr.zeroS)) → (wr.heap.size ≤ q18) → (q17 ≠ q18) → (?Gs0_17_18_R5 : Nat → Nat → World → Prop) q17 q18 WZ) ?hs0_17_18_R5 ?ks0_17_18_R5
  case' hs0_17_18_R5 => intro Ks0_17_18_R5
  case' hs0_17_18_R5 =>
   refine share (G := ∀ (q17 : Nat) (WZ : World), (Below wr.heap.size wr WZ) → (Blk WZ q17 32 (wtC 0 none 0 0)) → (wr.heap.size ≤ q17) → (?Gs0_17_R5 : Nat → World → Prop) q17 WZ) ?hs0_17_R5 ?ks0_17_R5
  case' hs0_17_R5 => intro Ks0_17_R5
  case' hs0_17_R5 =>
   refine share (G := ∀ (q18 : Nat) (WZ : World), (Below wr.heap.size wr WZ) → (Blk WZ q18 42 (spC Go.Dr.zeroS)) → (wr.heap.size ≤ q18) → (?Gs0_18_R5 : Nat → World → Prop) q18 WZ) ?hs0_18_R5 ?ks0_18_R5
  case' hs0_18_R5 => intro Ks0_18_R5
  case hs0_18_R5 =>
   refine wp_region_held_drew (S := fun wz => Below wr.heap.size wr wz) (by kernel_rfl) ((Below.refl _ wr).drew) (fun hHeld => ?_)
   generalize wr.drew = WZ at *
   refine tk (i := 0) (oi := ⟨some 27, .load 32 (.tmp 8), 32, "law.go:94", #[], none⟩) (v := ?_) rfl (Or.inl ⟨by rfl, ?_⟩) hHeld ?_
   rotate_left
   · intro wz hSw
     have q0 := (hVb.out.below hSw hVb.out.lt).at_ (i := 0) (x := .int .i64 V2.pub) rfl
     have q1 := (hVb.out.below hSw hVb.out.lt).at_ (i := 1) (x := .slice a2 n2 c2) rfl
     go_simp
     all_goals (with_reducible rfl)
   try simp only [Act.put, sA, s0, s1]
   refine tkq (i := 1) (oi := ⟨some 28, .move (.tmp 1), 25, "law.go:94", #[], none⟩) rfl hHeld ?_
   refine tkq (i := 2) (oi := ⟨some 29, .move (.tmp 2), 23, "law.go:94", #[], none⟩) rfl hHeld ?_
   refine tkq (i := 3) (oi := ⟨some 30, .move (.tmp 9), 3, "law.go:94", #[], none⟩) rfl hHeld ?_
   refine tk (i := 4) (oi := ⟨some 31, .indexAddr 23 (.tmp 29) (.tmp 30), 0, "law.go:94", #[⟨2, .data⟩, ⟨3, .data⟩], none⟩) (v := ?_) rfl (Or.inl ⟨by rfl, ?_⟩) hHeld ?_
   rotate_left
   · intro wz hSw
     have k0' := k0
     have k1' := k1
     go_simp
     all_goals (with_reducible rfl)
   try simp only [Act.put, sA, s0, s1]
   refine tk (i := 5) (oi := ⟨some 32, .load 5 (.tmp 31), 5, "law.go:94", #[⟨4, .data⟩], none⟩) (v := ?_) rfl (Or.inl ⟨by rfl, ?_⟩) hHeld ?_
   rotate_left
   · intro wz hSw
     have b0 := hbc.out wz hSw
     go_simp
     all_goals (with_reducible rfl)
   try simp only [Act.put, sA, s0, s1]
   refine tk (i := 6) (oi := ⟨some 33, .convert 5 3 (.tmp 32), 3, "law.go:94", #[⟨5, .data⟩], none⟩) (v := ?_) rfl (Or.inl ⟨by rfl, ?_⟩) hHeld ?_
   rotate_left
   · intro wz hSw
     have hx' := hwx.out
     go_simp
     all_goals (with_reducible rfl)
   try simp only [Act.put, sA, s0, s1]
   refine tkq (i := 7) (oi := ⟨some 34, .move (.tmp 1), 25, "law.go:94", #[], none⟩) rfl hHeld ?_
   refine tkq (i := 8) (oi := ⟨some 35, .call { callee := .builtin .len, args := #[.tmp 34], argTypes := #[25] }, 3, "law.go:94", #[⟨7, .data⟩], none⟩) rfl hHeld ?_
   refine tk (i := 9) (oi := ⟨some 36, .binOp .rem 3 (.tmp 33) (.tmp 35) 3, 3, "law.go:94", #[⟨6, .data⟩, ⟨8, .data⟩], none⟩) (v := ?_) rfl (Or.inl ⟨by rfl, ?_⟩) hHeld ?_
   rotate_left
   · intro wz hSw
     have ht' := htm.out
     have h1' := hne1
     have h2' := hne2
     have hj' := hwj.out
     go_simp
     all_goals (with_reducible rfl)
   try simp only [Act.put, sA, s0, s1]
   refine tk (i := 10) (oi := ⟨some 37, .indexAddr 25 (.tmp 28) (.tmp 36), 0, "law.go:94", #[⟨1, .data⟩, ⟨9, .data⟩], none⟩) (v := ?_) rfl (Or.inl ⟨by rfl, ?_⟩) hHeld ?_
   rotate_left
   · intro wz hSw
     have j0' := j0
     have j1' := j1
     go_simp
     all_goals (with_reducible rfl)
   try simp only [Act.put, sA, s0, s1]
   refine tk (i := 11) (oi := ⟨some 38, .load 40 (.tmp 37), 40, "law.go:94", #[⟨10, .data⟩], none⟩) rfl (yieldsIf_load_mid (by rfl) _ _ rfl b1 (o1 + j * 67) rfl (rr) _ (fun wz h => hrx.out wz h) Tryz.underlying40 rfl (hri.out)) hHeld ?_
   refine Go.rd (rs := [12, 17, 18]) ?_
   refine Go.rc (o := ⟨some 39, .call { callee := .value (.func 15), args := #[.tmp 27, .tmp 38], argTypes := #[32, 40] }, 49, "law.go:94", #[⟨0, .data⟩, ⟨11, .data⟩], none⟩) rfl (fun K hK => ?_) (Go.rc (o := ⟨some 10, .alloc 32, 0, "law.go:94", #[], none⟩) rfl (fun K hK => ?_) (Go.rc (o := ⟨some 11, .alloc 42, 0, "law.go:94", #[], none⟩) rfl (fun K hK => ?_) Go.rn))
   case refine_1 =>
    go_simp
    go_at_call 15
    refine (hacc.out _ (hTw.out _ (hbr.out.trans (hHeld.mono (by omega)))) ((hWM0.out.imp (K' := fun b => (b ≠ xb ∧ b ≠ vb) ∧ b < wr.heap.size) (fun b hb hk => ⟨hk, hb⟩)).below hHeld)).mono ?_
    rintro e wq ⟨hos, a9, n9, c9, rfl, hWMx, hst⟩


    refine hK.out _ _ (hHeld.trans (hst.mono hHeld.size)) (fun hHeld2 => ?_)
    clear hK K
    try simp only [Act.put, sA, s0, s1]
    refine tkq (i := 13) (oi := ⟨some 26, .move (.tmp 39), 49, "law.go:94", #[⟨12, .data⟩], none⟩) rfl hHeld2 ?_
    refine tkq (i := 14) (oi := ⟨some 40, .extract (.tmp 26) 0, 32, "law.go:94", #[⟨13, .data⟩], none⟩) rfl hHeld2 ?_
    refine tkq (i := 15) (oi := ⟨some 41, .extract (.tmp 26) 1, 42, "law.go:94", #[⟨13, .data⟩, ⟨19, .gcOnly .lateStores⟩], none⟩) rfl hHeld2 ?_
    refine tkq (i := 16) (oi := ⟨some 42, .extract (.tmp 26) 2, 45, "law.go:94", #[⟨13, .data⟩, ⟨20, .gcOnly .lateStores⟩], none⟩) rfl hHeld2 ?_
    exact Ks1_R5 a9 n9 c9 wq (hHeld2) (hWMx.imp (fun b hb hk => by first | (have h9 := hB17.lt; have h10 := hB18.lt; have h8 := hHeld.size; omega) | (have h9 := hB17.lt; have h8 := hHeld.size; omega) | (have h10 := hB18.lt; have h8 := hHeld.size; omega) | (have h8 := hHeld.size; omega)))
   case refine_2 =>
    go_simp
    refine hK.out _ _ (hHeld.alloc hHeld.size _) (fun hHeld2 => ?_)
    clear hK K
    try simp only [Act.put, sA, s0, s1]
    generalize hW2 : World.alloc WZ _ = W2
    rw [hW2] at hHeld2
    generalize hq : WZ.heap.size = q17
    have hBn : Blk W2 q17 32 (wtC 0 none 0 0) := by rw [← hW2, ← hq]; exact Blk.new _ _ _
    have hLn := hHeld.size
    rw [hq] at hLn
    clear hW2 hq
    exact Ks0_17_R5 q17 W2 (hHeld2) (hBn) (hLn)
   case refine_3 =>
    go_simp
    refine hK.out _ _ (hHeld.alloc hHeld.size _) (fun hHeld2 => ?_)
    clear hK K
    try simp only [Act.put, sA, s0, s1]
    generalize hW2 : World.alloc WZ _ = W2
    rw [hW2] at hHeld2
    generalize hq : WZ.heap.size = q18
    have hBn : Blk W2 q18 42 (spC Go.Dr.zeroS) := by rw [← hW2, ← hq]; exact Blk.new _ _ _
    have hLn := hHeld.size
    rw [hq] at hLn
    clear hW2 hq
    exact Ks0_18_R5 q18 W2 (hHeld2) (hBn) (hLn)
  case ks0_18_R5 =>
   intro q18 WZ hHeld hB18 hL18
   refine Go.rd (rs := [12, 17]) ?_
   refine Go.rc (o := ⟨some 39, .call { callee := .value (.func 15), args := #[.tmp 27, .tmp 38], argTypes := #[32, 40] }, 49, "law.go:94", #[⟨0, .data⟩, ⟨11, .data⟩], none⟩) rfl (fun K hK => ?_) (Go.rc (o := ⟨some 10, .alloc 32, 0, "law.go:94", #[], none⟩) rfl (fun K hK => ?_) Go.rn)
   case refine_1 =>
    go_simp
    go_at_call 15
    refine (hacc.out _ (hTw.out _ (hbr.out.trans (hHeld.mono (by omega)))) ((hWM0.out.imp (K' := fun b => (b ≠ xb ∧ b ≠ vb) ∧ b < wr.heap.size) (fun b hb hk => ⟨hk, hb⟩)).below hHeld)).mono ?_
    rintro e wq ⟨hos, a9, n9, c9, rfl, hWMx, hst⟩


    refine hK.out _ _ (hHeld.trans (hst.mono hHeld.size)) (fun hHeld2 => ?_)
    clear hK K
    try simp only [Act.put, sA, s0, s1]
    refine tkq (i := 13) (oi := ⟨some 26, .move (.tmp 39), 49, "law.go:94", #[⟨12, .data⟩], none⟩) rfl hHeld2 ?_
    refine tkq (i := 14) (oi := ⟨some 40, .extract (.tmp 26) 0, 32, "law.go:94", #[⟨13, .data⟩], none⟩) rfl hHeld2 ?_
    refine tkq (i := 15) (oi := ⟨some 41, .extract (.tmp 26) 1, 42, "law.go:94", #[⟨13, .data⟩, ⟨19, .gcOnly .lateStores⟩], none⟩) rfl hHeld2 ?_
    refine tkq (i := 16) (oi := ⟨some 42, .extract (.tmp 26) 2, 45, "law.go:94", #[⟨13, .data⟩, ⟨20, .gcOnly .lateStores⟩], none⟩) rfl hHeld2 ?_
    exact Ks1_18_R5 q18 a9 n9 c9 wq (hHeld2) (hB18.below hst hB18.lt) (hL18) (hWMx.imp (fun b hb hk => by first | (have h9 := hB17.lt; have h10 := hB18.lt; have h8 := hHeld.size; omega) | (have h9 := hB17.lt; have h8 := hHeld.size; omega) | (have h10 := hB18.lt; have h8 := hHeld.size; omega) | (have h8 := hHeld.size; omega)))
   case refine_2 =>
    go_simp
    refine hK.out _ _ (hHeld.alloc hHeld.size _) (fun hHeld2 => ?_)
    clear hK K
    try simp only [Act.put, sA, s0, s1]
    generalize hW2 : World.alloc WZ _ = W2
    rw [hW2] at hHeld2
    generalize hq : WZ.heap.size = q17
    have hBn : Blk W2 q17 32 (wtC 0 none 0 0) := by rw [← hW2, ← hq]; exact Blk.new _ _ _
    have hLn := hHeld.size
    rw [hq] at hLn
    have hB18' : Blk W2 q18 42 (spC Go.Dr.zeroS) := by rw [← hW2]; exact hB18.alloc _
    have hN18' := hB18.lt
    rw [hq] at hN18'
    clear hW2 hq
    exact Ks0_17_18_R5 q17 q18 W2 (hHeld2) (hBn) (hLn) (hB18') (hL18) ((by omega))
  case ks0_17_R5 =>
   intro q17 WZ hHeld hB17 hL17
   refine Go.rd (rs := [12, 18]) ?_
   refine Go.rc (o := ⟨some 39, .call { callee := .value (.func 15), args := #[.tmp 27, .tmp 38], argTypes := #[32, 40] }, 49, "law.go:94", #[⟨0, .data⟩, ⟨11, .data⟩], none⟩) rfl (fun K hK => ?_) (Go.rc (o := ⟨some 11, .alloc 42, 0, "law.go:94", #[], none⟩) rfl (fun K hK => ?_) Go.rn)
   case refine_1 =>
    go_simp
    go_at_call 15
    refine (hacc.out _ (hTw.out _ (hbr.out.trans (hHeld.mono (by omega)))) ((hWM0.out.imp (K' := fun b => (b ≠ xb ∧ b ≠ vb) ∧ b < wr.heap.size) (fun b hb hk => ⟨hk, hb⟩)).below hHeld)).mono ?_
    rintro e wq ⟨hos, a9, n9, c9, rfl, hWMx, hst⟩


    refine hK.out _ _ (hHeld.trans (hst.mono hHeld.size)) (fun hHeld2 => ?_)
    clear hK K
    try simp only [Act.put, sA, s0, s1]
    refine tkq (i := 13) (oi := ⟨some 26, .move (.tmp 39), 49, "law.go:94", #[⟨12, .data⟩], none⟩) rfl hHeld2 ?_
    refine tkq (i := 14) (oi := ⟨some 40, .extract (.tmp 26) 0, 32, "law.go:94", #[⟨13, .data⟩], none⟩) rfl hHeld2 ?_
    refine tkq (i := 15) (oi := ⟨some 41, .extract (.tmp 26) 1, 42, "law.go:94", #[⟨13, .data⟩, ⟨19, .gcOnly .lateStores⟩], none⟩) rfl hHeld2 ?_
    refine tkq (i := 16) (oi := ⟨some 42, .extract (.tmp 26) 2, 45, "law.go:94", #[⟨13, .data⟩, ⟨20, .gcOnly .lateStores⟩], none⟩) rfl hHeld2 ?_
    exact Ks1_17_R5 q17 a9 n9 c9 wq (hHeld2) (hB17.below hst hB17.lt) (hL17) (hWMx.imp (fun b hb hk => by first | (have h9 := hB17.lt; have h10 := hB18.lt; have h8 := hHeld.size; omega) | (have h9 := hB17.lt; have h8 := hHeld.size; omega) | (have h10 := hB18.lt; have h8 := hHeld.size; omega) | (have h8 := hHeld.size; omega)))
   case refine_2 =>
    go_simp
    refine hK.out _ _ (hHeld.alloc hHeld.size _) (fun hHeld2 => ?_)
    clear hK K
    try simp only [Act.put, sA, s0, s1]
    generalize hW2 : World.alloc WZ _ = W2
    rw [hW2] at hHeld2
    generalize hq : WZ.heap.size = q18
    have hBn : Blk W2 q18 42 (spC Go.Dr.zeroS) := by rw [← hW2, ← hq]; exact Blk.new _ _ _
    have hLn := hHeld.size
    rw [hq] at hLn
    have hB17' : Blk W2 q17 32 (wtC 0 none 0 0) := by rw [← hW2]; exact hB17.alloc _
    have hN17' := hB17.lt
    rw [hq] at hN17'
    clear hW2 hq
    exact Ks0_17_18_R5 q17 q18 W2 (hHeld2) (hB17') (hL17) (hBn) (hLn) ((by omega))
  case ks0_17_18_R5 =>
   intro q17 q18 WZ hHeld hB17 hL17 hB18 hL18 hN17_18
   refine Go.rd (rs := [12]) ?_
   refine Go.rc (o := ⟨some 39, .call { callee := .value (.func 15), args := #[.tmp 27, .tmp 38], argTypes := #[32, 40] }, 49, "law.go:94", #[⟨0, .data⟩, ⟨11, .data⟩], none⟩) rfl (fun K hK => ?_) Go.rn
   go_simp
   go_at_call 15
   refine (hacc.out _ (hTw.out _ (hbr.out.trans (hHeld.mono (by omega)))) ((hWM0.out.imp (K' := fun b => (b ≠ xb ∧ b ≠ vb) ∧ b < wr.heap.size) (fun b hb hk => ⟨hk, hb⟩)).below hHeld)).mono ?_
   rintro e wq ⟨hos, a9, n9, c9, rfl, hWMx, hst⟩


   refine hK.out _ _ (hHeld.trans (hst.mono hHeld.size)) (fun hHeld2 => ?_)
   clear hK K
   try simp only [Act.put, sA, s0, s1]
   refine tkq (i := 13) (oi := ⟨some 26, .move (.tmp 39), 49, "law.go:94", #[⟨12, .data⟩], none⟩) rfl hHeld2 ?_
   refine tkq (i := 14) (oi := ⟨some 40, .extract (.tmp 26) 0, 32, "law.go:94", #[⟨13, .data⟩], none⟩) rfl hHeld2 ?_
   refine tkq (i := 15) (oi := ⟨some 41, .extract (.tmp 26) 1, 42, "law.go:94", #[⟨13, .data⟩, ⟨19, .gcOnly .lateStores⟩], none⟩) rfl hHeld2 ?_
   refine tkq (i := 16) (oi := ⟨some 42, .extract (.tmp 26) 2, 45, "law.go:94", #[⟨13, .data⟩, ⟨20, .gcOnly .lateStores⟩], none⟩) rfl hHeld2 ?_
   exact Ks1_17_18_R5 q17 q18 a9 n9 c9 wq (hHeld2) (hB17.below hst hB17.lt) (hL17) (hB18.below hst hB18.lt) (hL18) (hN17_18) (hWMx.imp (fun b hb hk => by first | (have h9 := hB17.lt; have h10 := hB18.lt; have h8 := hHeld.size; omega) | (have h9 := hB17.lt; have h8 := hHeld.size; omega) | (have h10 := hB18.lt; have h8 := hHeld.size; omega) | (have h8 := hHeld.size; omega)))
  case ks1_R5 =>
   intro a9 n9 c9 WZ hHeld hWM
   refine Go.rd (rs := [17, 18]) ?_
   refine Go.rc (o := ⟨some 10, .alloc 32, 0, "law.go:94", #[], none⟩) rfl (fun K hK => ?_) (Go.rc (o := ⟨some 11, .alloc 42, 0, "law.go:94", #[], none⟩) rfl (fun K hK => ?_) Go.rn)
   case refine_1 =>
    go_simp
    refine hK.out _ _ (hHeld.alloc hHeld.size _) (fun hHeld2 => ?_)
    clear hK K
    try simp only [Act.put, sA, s0, s1]
    generalize hW2 : World.alloc WZ _ = W2
    rw [hW2] at hHeld2
    generalize hq : WZ.heap.size = q17
    have hBn : Blk W2 q17 32 (wtC 0 none 0 0) := by rw [← hW2, ← hq]; exact Blk.new _ _ _
    have hLn := hHeld.size
    rw [hq] at hLn
    have hWM' : WM (fun b => (b ≠ xb ∧ b ≠ vb) ∧ b ≠ q17) W2 V3 a9 n9 c9 := by rw [← hW2]; exact ((hWM.imp (K' := (fun b => (b ≠ xb ∧ b ≠ vb) ∧ b ≠ q17)) (fun b hb hk => by first | omega | (simp only at hk ⊢; omega) | (show _ ≠ _; omega) | (show _ ∧ _; omega)))).below ((Below.refl _ WZ).alloc (Nat.le_refl _) _)
    clear hW2 hq
    exact Ks1_17_R5 q17 a9 n9 c9 W2 (hHeld2) (hBn) (hLn) (hWM')
   case refine_2 =>
    go_simp
    refine hK.out _ _ (hHeld.alloc hHeld.size _) (fun hHeld2 => ?_)
    clear hK K
    try simp only [Act.put, sA, s0, s1]
    generalize hW2 : World.alloc WZ _ = W2
    rw [hW2] at hHeld2
    generalize hq : WZ.heap.size = q18
    have hBn : Blk W2 q18 42 (spC Go.Dr.zeroS) := by rw [← hW2, ← hq]; exact Blk.new _ _ _
    have hLn := hHeld.size
    rw [hq] at hLn
    have hWM' : WM (fun b => (b ≠ xb ∧ b ≠ vb) ∧ b ≠ q18) W2 V3 a9 n9 c9 := by rw [← hW2]; exact ((hWM.imp (K' := (fun b => (b ≠ xb ∧ b ≠ vb) ∧ b ≠ q18)) (fun b hb hk => by first | omega | (simp only at hk ⊢; omega) | (show _ ≠ _; omega) | (show _ ∧ _; omega)))).below ((Below.refl _ WZ).alloc (Nat.le_refl _) _)
    clear hW2 hq
    exact Ks1_18_R5 q18 a9 n9 c9 W2 (hHeld2) (hBn) (hLn) (hWM')
  case ks1_18_R5 =>
   intro q18 a9 n9 c9 WZ hHeld hB18 hL18 hWM
   refine Go.rd (rs := [17]) ?_
   refine Go.rc (o := ⟨some 10, .alloc 32, 0, "law.go:94", #[], none⟩) rfl (fun K hK => ?_) Go.rn
   go_simp
   refine hK.out _ _ (hHeld.alloc hHeld.size _) (fun hHeld2 => ?_)
   clear hK K
   try simp only [Act.put, sA, s0, s1]
   generalize hW2 : World.alloc WZ _ = W2
   rw [hW2] at hHeld2
   generalize hq : WZ.heap.size = q17
   have hBn : Blk W2 q17 32 (wtC 0 none 0 0) := by rw [← hW2, ← hq]; exact Blk.new _ _ _
   have hLn := hHeld.size
   rw [hq] at hLn
   have hB18' : Blk W2 q18 42 (spC Go.Dr.zeroS) := by rw [← hW2]; exact hB18.alloc _
   have hN18' := hB18.lt
   rw [hq] at hN18'
   have hWM' : WM (fun b => (b ≠ xb ∧ b ≠ vb) ∧ b ≠ q17 ∧ b ≠ q18) W2 V3 a9 n9 c9 := by rw [← hW2]; exact ((hWM.imp (K' := (fun b => (b ≠ xb ∧ b ≠ vb) ∧ b ≠ q17 ∧ b ≠ q18)) (fun b hb hk => by first | omega | (simp only at hk ⊢; omega) | (show _ ≠ _; omega) | (show _ ∧ _; omega)))).below ((Below.refl _ WZ).alloc (Nat.le_refl _) _)
   clear hW2 hq
   exact Ks1_17_18_R5 q17 q18 a9 n9 c9 W2 (hHeld2) (hBn) (hLn) (hB18') (hL18) ((by omega)) (hWM')
  case ks1_17_R5 =>
   intro q17 a9 n9 c9 WZ hHeld hB17 hL17 hWM
   refine Go.rd (rs := [18]) ?_
   refine Go.rc (o := ⟨some 11, .alloc 42, 0, "law.go:94", #[], none⟩) rfl (fun K hK => ?_) Go.rn
   go_simp
   refine hK.out _ _ (hHeld.alloc hHeld.size _) (fun hHeld2 => ?_)
   clear hK K
   try simp only [Act.put, sA, s0, s1]
   generalize hW2 : World.alloc WZ _ = W2
   rw [hW2] at hHeld2
   generalize hq : WZ.heap.size = q18
   have hBn : Blk W2 q18 42 (spC Go.Dr.zeroS) := by rw [← hW2, ← hq]; exact Blk.new _ _ _
   have hLn := hHeld.size
   rw [hq] at hLn
   have hB17' : Blk W2 q17 32 (wtC 0 none 0 0) := by rw [← hW2]; exact hB17.alloc _
   have hN17' := hB17.lt
   rw [hq] at hN17'
   have hWM' : WM (fun b => (b ≠ xb ∧ b ≠ vb) ∧ b ≠ q17 ∧ b ≠ q18) W2 V3 a9 n9 c9 := by rw [← hW2]; exact ((hWM.imp (K' := (fun b => (b ≠ xb ∧ b ≠ vb) ∧ b ≠ q17 ∧ b ≠ q18)) (fun b hb hk => by first | omega | (simp only at hk ⊢; omega) | (show _ ≠ _; omega) | (show _ ∧ _; omega)))).below ((Below.refl _ WZ).alloc (Nat.le_refl _) _)
   clear hW2 hq
   exact Ks1_17_18_R5 q17 q18 a9 n9 c9 W2 (hHeld2) (hB17') (hL17) (hBn) (hLn) ((by omega)) (hWM')
  case ks1_17_18_R5 =>
   intro q17 q18 a9 n9 c9 WZ hHeld hB17 hL17 hB18 hL18 hN17_18 hWM
   refine Go.rd (rs := [19]) ?_
   refine AllReadyH.cons (o := ⟨none, .store 32 (.tmp 10) (.tmp 40), 0, "law.go:94", #[⟨17, .data⟩, ⟨14, .data⟩, ⟨12, .chain⟩, ⟨0, .phase⟩, ⟨1, .phase⟩, ⟨2, .phase⟩, ⟨3, .phase⟩, ⟨4, .phase⟩, ⟨5, .phase⟩, ⟨6, .phase⟩, ⟨7, .phase⟩, ⟨8, .phase⟩, ⟨9, .phase⟩, ⟨10, .phase⟩, ⟨11, .phase⟩, ⟨12, .phase⟩, ⟨13, .phase⟩, ⟨14, .phase⟩, ⟨15, .textOnly .lateStores⟩, ⟨16, .textOnly .lateStores⟩, ⟨17, .phase⟩, ⟨18, .phase⟩], none⟩) rfl (fun K hK => ?_) AllReadyH.nil
   obtain ⟨W3, hQ⟩ := put_row (ty := 32) hB17 (x := wtC V3.pub a9 n9 c9) (rfl) (sizeWt) (wt_one _ _ _ _)
   have hHeld2 := below_grown hHeld hQ.grown hHeld.size hL17
   rw [if_pos (by rfl)]
   refine wp_store_mid 32 _ _ rfl q17 0 (wtC V3.pub a9 n9 c9 : List Value).toArray (by rfl) (by rfl) hQ.there hQ.info (by simpa using hQ.one) ?_
   generalize hWq : World.setCells _ _ _ _ = Wa
   obtain rfl : W3 = Wa := by rw [← hWq]; exact hQ.eq
   clear hWq
   refine hK.out _ _ hHeld2 (fun _ => ?_)
   clear hK K
   try simp only [Act.put]
   exact Ks2_17_18_R5 q17 q18 a9 n9 c9 W3 (hHeld2) (hQ.blk) (hL17) (hB18.grown hQ.grown (fun e => by injection e with e; exact hN17_18 e.symm)) (hL18) (hN17_18) (hWM.keep (Keeps.grown hQ.grown (fun b hb => by omega)))
  case ks2_17_18_R5 =>
   intro q17 q18 a9 n9 c9 WZ hHeld hB17 hL17 hB18 hL18 hN17_18 hWM
   refine Go.rd (rs := [20]) ?_
   refine AllReadyH.cons (o := ⟨none, .store 42 (.tmp 11) (.tmp 41), 0, "law.go:94", #[⟨18, .data⟩, ⟨15, .data⟩, ⟨19, .chain⟩, ⟨0, .phase⟩, ⟨1, .phase⟩, ⟨2, .phase⟩, ⟨3, .phase⟩, ⟨4, .phase⟩, ⟨5, .phase⟩, ⟨6, .phase⟩, ⟨7, .phase⟩, ⟨8, .phase⟩, ⟨9, .phase⟩, ⟨10, .phase⟩, ⟨11, .phase⟩, ⟨12, .phase⟩, ⟨13, .phase⟩, ⟨14, .phase⟩, ⟨15, .phase⟩, ⟨16, .textOnly .lateStores⟩, ⟨17, .phase⟩, ⟨18, .phase⟩, ⟨19, .phase⟩], none⟩) rfl (fun K hK => ?_) AllReadyH.nil
   obtain ⟨W3, hQ⟩ := put_row (ty := 42) hB18 (x := sp) (hspl.out) (hspi.out) (hsp1.out)
   have hHeld2 := below_grown hHeld hQ.grown hHeld.size hL18
   rw [if_pos (by rfl)]
   refine wp_store_mid 42 _ _ rfl q18 0 (sp : List Value).toArray (by rfl) (by rfl) hQ.there hQ.info (by simpa using hQ.one) ?_
   generalize hWq : World.setCells _ _ _ _ = Wa
   obtain rfl : W3 = Wa := by rw [← hWq]; exact hQ.eq
   clear hWq
   refine hK.out _ _ hHeld2 (fun _ => ?_)
   clear hK K
   try simp only [Act.put]
   refine tkq (i := 21) (oi := ⟨some 12, .assign (.tmp 42), 45, "law.go:94", #[⟨16, .data⟩, ⟨20, .chain⟩, ⟨0, .phase⟩, ⟨1, .phase⟩, ⟨2, .phase⟩, ⟨3, .phase⟩, ⟨4, .phase⟩, ⟨5, .phase⟩, ⟨6, .phase⟩, ⟨7, .phase⟩, ⟨8, .phase⟩, ⟨9, .phase⟩, ⟨10, .phase⟩, ⟨11, .phase⟩, ⟨12, .phase⟩, ⟨13, .phase⟩, ⟨14, .phase⟩, ⟨15, .phase⟩, ⟨16, .phase⟩, ⟨17, .phase⟩, ⟨18, .phase⟩, ⟨19, .phase⟩, ⟨20, .phase⟩], none⟩) rfl hHeld2 ?_
   refine wpAnyH_done (by kernel_rfl) ?_ _
   exact KfinR5 q17 q18 a9 n9 c9 W3 (hHeld2) (hB17.grown hQ.grown (fun e => by injection e with e; exact hN17_18 e)) (hL17) (hQ.blk) (hL18) (hN17_18) (hWM.keep (Keeps.grown hQ.grown (fun b hb => by omega)))
  case kfinR5 =>
   intro q17 q18 a9 n9 c9 WZ hHeld hB17 hL17 hB18 hL18 hN hWM
   have hb5 := Lib.hid (hbr.out.trans (hHeld.mono (by omega)))
   have hVb5 := Lib.hid (hVb.out.below hHeld hVb.out.lt)
   have hXb5 := Lib.hid (hXb.out.below hHeld hXb.out.lt)
   have hA5 := Lib.hid hB17
   have hW5 : Hid (WM (fun b => b ≠ xb ∧ b ≠ vb) WZ V3 a9 n9 c9) := hWM.imp (fun b _ hk => by omega)
   have hW2 : Hid (WM (fun b => b ≠ xb ∧ b ≠ vb) WZ V2 a2 n2 c2) := hWM0.out.below hHeld
   clear hHeld hB17 hB18 hL17 hL18 hN hWM hVb hXb hbr hWM0
   by_cases hq : q3 = 0
   · have hq0 : (q3 == 0) = true := by simpa using hq
     have hgo4 := hgo3.out
     rw [if_pos hq] at hgo4
     have hgo5 := Lib.hid hgo4
     obtain ⟨V8, hP8⟩ := put_row (ty := 32) hVb5.out (x := wtC V3.pub a9 n9 c9) rfl sizeWt (wt_one _ _ _ _)
     have hP8' := Lib.hid hP8
     have hV8 := Lib.hid hP8.blk
     have hX8 := Lib.hid (hXb5.out.grown hP8.grown (by intro e; injection e; omega))
     have hW8 := Lib.hid (hW5.out.keep (Keeps.grown hP8.grown (fun b hb e => hb.2 e)))
     have hb8 := Lib.hid (below_grown hb5.out hP8.grown (by have := hb5.out.size; have := hws9.out; omega) (by omega))
     have y0 := hA5.out.at_ (i := 0) (x := .int .i64 V3.pub) rfl
     have y1 := hA5.out.at_ (i := 1) (x := .slice a9 n9 c9) rfl
     clear hP8 hgo4 hq hVb5 hXb5 hW5 hb5 hW2
     go_wp2_with (first
      | (refine wpList_store_mid (by rfl) 32 (.tmp 8) (.tmp 46) (by rfl) vb 0 (wtC V3.pub a9 n9 c9).toArray (by rfl) (by rfl) hP8'.out.there hP8'.out.info (by simpa using hP8'.out.one) ?_
         generalize hWq : World.setCells _ _ _ _ = Wa
         obtain rfl : V8 = Wa := by rw [← hWq]; exact hP8'.out.eq
         clear hWq))
     go_roundw
     case rel => exact ⟨k + 1, V3, a9, n9, c9, by omega, by go_num, hV8, hX8, hW8, hgo5, hb8⟩
     case measure => simp [intOf]; omega
   · have hq0 : (q3 == 0) = false := by simpa using hq
     have hq1 : (q3 != 0) = true := by simpa using hq
     have hgo4 := hgo3.out
     rw [if_neg hq] at hgo4
     have hres : Hid (Y = (V2, false)) := hgo4.symm
     have hVb := hVb5
     have hXb := hXb5
     have hWM0 := hW2
     have hbr := hb5
     have hwsx : w.heap.size = xb := hws9.out
     clear hgo4 hq
     obtain ⟨V9, hP9⟩ := put_row (ty := 32) hXb.out (x := wtC V2.pub a2 n2 c2) rfl sizeWt (wt_one _ _ _ _)
     have hP9' := Lib.hid hP9
     have hM9 : WM (fun _ => True) V9 V2 a2 n2 c2 := (hWM0.out.keep (Keeps.grown hP9.grown (fun b hb e => by omega))).imp (fun _ _ _ => trivial)
     have hend := Lib.hid (hfin.out (V2, false) _ _ _ _ hres.out hM9 (below_grown hbr.out hP9.grown (by have := hbr.out.size; omega) (by omega)))
     have y0 := hVb.out.at_ (i := 0) (x := .int .i64 V2.pub) rfl
     have y1 := hVb.out.at_ (i := 1) (x := .slice a2 n2 c2) rfl
     clear hP9 hM9 hfin hres
     go_wp2_with (first
      | (refine wpList_store_mid (by rfl) 32 (.tmp 6) (.tmp 45) (by rfl) xb 0 (wtC V2.pub a2 n2 c2).toArray (by rfl) (by rfl) hP9'.out.there hP9'.out.info (by simpa using hP9'.out.one) ?_
         generalize hWq : World.setCells _ _ _ _ = Wa
         obtain rfl : V9 = Wa := by rw [← hWq]; exact hP9'.out.eq
         clear hWq))
     exact ret_cell_tmp (p := 6) (u := 7) rfl hP9'.out.blk Tryz.underlying32 rfl sizeWt rfl rfl rfl hend.out
end Go.Proofs.YthnfjkgiaanmhaaGreatDoor
namespace Go.Dr
open Go.Proofs.YthnfjkgiaanmhaaGreatDoor (pubB keyOk base_ok)

def exG : Lst := ⟨1, 4, 4, 1, false⟩
theorem acc_ins {b : Int} {w : Wt} {r : Rt} (H : WOk b w) (hr : properB b w.pub r = true) (hc : (confl w.rs r).2 = false) : accW b w r = (if metR r.no w.rs then w else ⟨w.pub, insR r w.rs⟩, zeroS, 0) := by
 unfold accW
 rw [if_pos (wchk_iff.2 H), if_pos hr, if_neg (by rw [hc]; simp)]
theorem acc_hist {b pub : Int} {R : List Rt} (H : Hist b pub R) {l : List Rt} {r : Rt} (hp : l.Pairwise (fun a c => a.no < c.no)) (hl : ∀ x ∈ l, x ∈ R) (hr : r ∈ R) (hm : ∀ x ∈ l, x.no ≠ r.no) : accW b ⟨pub, l⟩ r = (⟨pub, insR r l⟩, zeroS, 0) := by
 have hf : Free l := fun x hx y hy => hist_free H x (hl x hx) y (hl y hy)
 have hw : WOk b ⟨pub, l⟩ := ⟨fun x hx => hist_proper H (hl x hx), hp, hf⟩
 have hc : (confl l r).2 = false := confl_none fun x hx => ⟨hist_free H x (hl x hx) r hr, hist_free H r hr x (hl x hx)⟩
 rw [acc_ins hw (hist_proper H hr) hc, if_neg]
 intro hmet
 obtain ⟨x, hx, hxn⟩ := (metR_iff hp).1 hmet
 exact hm x hx hxn
theorem fits_exG : fitsB exG = true := by
 have h4 := base_ok
 unfold fitsB exG
 rw [h4]
 rfl
theorem zero_fits : fitsB zeroL = false := by unfold fitsB zeroL; simp
theorem grow_zero {b : Int} (hb : Grp.ok b = true) {D : Dir} (H : Hs b 5 D) (hn : D.rs.length < 65536) : growS b D zeroL = { D with rs := D.rs ++ [nextR b D] } ∧ Hs b 5 { D with rs := D.rs ++ [nextR b D] } := by
 have k5 : keyOk 5 = true := by decide
 have hs : setD b D zeroL = (zeroDir, 350) := by
  unfold setD
  rw [if_pos (by rw [H.priv]; exact k5), if_pos H.chk, if_neg (by rw [zero_fits]; simp)]
 have ht := hs_tick hb k5 H hn
 refine ⟨?_, ht.2⟩
 unfold growS
 rw [hs, ht.1, if_neg (by decide), if_pos rfl]
theorem grow_exG {b : Int} (hb : Grp.ok b = true) {D : Dir} (H : Hs b 5 D) (hl : D.ls = []) (hn : D.rs.length < 65536) :
 growS b D exG = ⟨D.priv, [exG], D.rs ++ [nextR b ⟨D.priv, [exG], D.rs⟩]⟩ ∧ Hs b 5 ⟨D.priv, [exG], D.rs ++ [nextR b ⟨D.priv, [exG], D.rs⟩]⟩ := by
 have k5 : keyOk 5 = true := by decide
 obtain ⟨p, ls, rs⟩ := D
 simp only at hl
 subst hl
 obtain rfl : p = 5 := H.priv
 have hc : chkL [exG] = true := chk_insL (l := []) fits_exG rfl
 have hs : setD b ⟨5, [], rs⟩ exG = (⟨5, [exG], rs ++ [nextR b ⟨5, [exG], rs⟩]⟩, 0) := by
  unfold setD
  rw [if_pos k5, if_pos (show chkL [] = true from rfl), if_pos (by rw [fits_exG]; rfl)]
  exact tick_ok (D := ⟨5, [exG], rs⟩) k5 hc hn
 refine ⟨by unfold growS; rw [hs, if_pos rfl], ?_⟩
 rcases hs_set hb k5 H hn exG with e | ⟨E, e, hE, _⟩
 · rw [hs] at e; simp at e
 · rw [hs] at e
   simp only [Prod.mk.injEq, and_true] at e
   rw [e]; exact hE
structure Gex (b pub : Int) (r0 r1 r2 o3 s3 : Rt) : Prop where
 g1 : grownD b ⟨5, [], []⟩ [zeroL, zeroL, zeroL] = ⟨5, [], [r0, r1, r2]⟩
 g2 : grownD b ⟨5, [], [r0, r1, r2]⟩ [exG] = ⟨5, [exG], [r0, r1, r2, o3]⟩
 g3 : grownD b ⟨5, [], [r0, r1, r2]⟩ [zeroL] = ⟨5, [], [r0, r1, r2, s3]⟩
 a0 : accW b ⟨pub, []⟩ r0 = (⟨pub, [r0]⟩, zeroS, 0)
 a1 : accW b ⟨pub, [r0]⟩ r2 = (⟨pub, [r0, r2]⟩, zeroS, 0)
 a2 : accW b ⟨pub, [r0, r2]⟩ r1 = (⟨pub, [r0, r1, r2]⟩, zeroS, 0)
 a3 : accW b ⟨pub, [r0, r1, r2]⟩ o3 = (⟨pub, [r0, r1, r2, o3]⟩, zeroS, 0)
 a4 : accW b ⟨pub, [r0, r1, r2, o3]⟩ s3 = (⟨pub, [r0, r1, r2, o3]⟩, (o3, s3), 361)
 p1 : proveS b pub (o3, s3) = 0
 p2 : proveS b pub (r0, r0) = 361
theorem acc_zero (b : Int) : accW b ⟨0, []⟩ zeroR = (zeroW, zeroS, 360) := by
 have hp : properB b 0 zeroR = false := by
  unfold properB signedB zeroR
  rw [decide_eq_false (by show ¬ (1 ≤ (0 : Int) ∧ (0 : Int) ≤ 65536); omega)]; rfl
 unfold accW
 rw [if_pos (wchk_iff.2 (acc_new b 0))]
 show (if properB b 0 zeroR = true then _ else _) = _
 rw [if_neg (by rw [hp]; simp)]
theorem cmp_zero (b : Int) : cmpW b ⟨0, []⟩ ⟨0, []⟩ = (zeroS, false) := by
 rw [cmp_ok (acc_new b 0) (acc_new b 0) rfl]; rfl
theorem prove_zero (b : Int) : proveS b 0 zeroS = 361 := by
 have hp : properB b 0 zeroR = false := by
  unfold properB signedB zeroR
  rw [decide_eq_false (by show ¬ (1 ≤ (0 : Int) ∧ (0 : Int) ≤ 65536); omega)]; rfl
 unfold proveS proveB zeroS
 simp only [hp, Bool.false_and]
 rfl
theorem gex_there {b : Int} (hb : Grp.ok b = true) : ∃ r0 r1 r2 o3 s3, Gex b (pubB b 5) r0 r1 r2 o3 s3 := by
 obtain ⟨e0, h0⟩ := grow_zero hb (D := ⟨5, [], []⟩) (hs_new b 5) (by simp)
 obtain ⟨r0, hr0⟩ : ∃ r, nextR b ⟨5, [], []⟩ = r := ⟨_, rfl⟩
 simp only [hr0, List.nil_append] at e0 h0
 obtain ⟨e1, h1⟩ := grow_zero hb h0 (by simp)
 obtain ⟨r1, hr1⟩ : ∃ r, nextR b ⟨5, [], [r0]⟩ = r := ⟨_, rfl⟩
 simp only [hr1, List.cons_append, List.nil_append] at e1 h1
 obtain ⟨e2, h2⟩ := grow_zero hb h1 (by simp)
 obtain ⟨r2, hr2⟩ : ∃ r, nextR b ⟨5, [], [r0, r1]⟩ = r := ⟨_, rfl⟩
 simp only [hr2, List.cons_append, List.nil_append] at e2 h2
 obtain ⟨e3, h3⟩ := grow_zero hb h2 (by simp)
 have hsd : (nextR b ⟨5, [], [r0, r1, r2]⟩).dig = rootD [] := rfl
 obtain ⟨s3, hs3⟩ : ∃ r, nextR b ⟨5, [], [r0, r1, r2]⟩ = r := ⟨_, rfl⟩
 rw [hs3] at hsd
 simp only [hs3, List.cons_append, List.nil_append] at e3 h3
 obtain ⟨e4, h4⟩ := grow_exG hb h2 rfl (by simp)
 have hod : (nextR b ⟨5, [exG], [r0, r1, r2]⟩).dig = rootD [exG] := rfl
 obtain ⟨o3, ho3⟩ : ∃ r, nextR b ⟨5, [exG], [r0, r1, r2]⟩ = r := ⟨_, rfl⟩
 rw [ho3] at hod
 simp only [ho3, List.cons_append, List.nil_append] at e4 h4
 clear hr0 hr1 hr2 hs3 ho3
 have H2 : Hist b (pubB b 5) [r0, r1, r2] := h2.hist
 have H3 : Hist b (pubB b 5) [r0, r1, r2, s3] := h3.hist
 have H4 : Hist b (pubB b 5) [r0, r1, r2, o3] := h4.hist
 have n0 : r0.no = 1 := (H4 0 r0 rfl).1
 have n1 : r1.no = 2 := (H4 1 r1 rfl).1
 have n2 : r2.no = 3 := (H4 2 r2 rfl).1
 have n3 : o3.no = 4 := (H4 3 o3 rfl).1
 have n4 : s3.no = 4 := (H3 3 s3 rfl).1
 have hne : o3 ≠ s3 := fun e => roots_differ (by rw [← hsd, ← e]; exact hod)
 have hct : contraB o3 s3 = true := (contra_same (by omega)).2 hne
 have po3 : properB b (pubB b 5) o3 = true := hist_proper H4 (by simp)
 have ps3 : properB b (pubB b 5) s3 = true := hist_proper H3 (by simp)
 refine ⟨r0, r1, r2, o3, s3, ⟨?_, ?_, ?_, ?_, ?_, ?_, ?_, ?_, prove_mk po3 ps3 hct, ?_⟩⟩
 · simp only [grownD, e0, e1, e2]
 · simp only [grownD, e4]
 · simp only [grownD, e3]
 · rw [acc_hist H2 List.Pairwise.nil (by simp) (by simp) (by simp)]; rfl
 · rw [acc_hist H2 (by simp) (by simp) (by simp) (by simp; omega)]
   simp [insR, posR, List.findIdx_cons, n0, n2]
 · rw [acc_hist H2 (by simp; omega) (by simp) (by simp) (by simp; omega)]
   simp [insR, posR, List.findIdx_cons, n0, n1, n2]
 · rw [acc_hist H4 (by simp; omega) (by simp) (by simp) (by simp; omega)]
   simp [insR, posR, List.findIdx_cons, n0, n1, n2, n3]
 · have hw : WOk b ⟨pubB b 5, [r0, r1, r2, o3]⟩ := ⟨fun x hx => hist_proper H4 hx, by simp; omega, hist_free H4⟩
   have hcf : confl [r0, r1, r2, o3] s3 = ((o3, s3), true) := by
    have hp : posR s3.no [r0, r1, r2, o3] = 3 := by simp [posR, List.findIdx_cons, n0, n1, n2, n3, n4]
    unfold confl
    rw [hp]
    unfold conflM
    simp only [List.getElem?_cons_succ, List.getElem?_cons_zero]
    rw [if_pos (by omega), hct]
   unfold accW
   rw [if_pos (wchk_iff.2 hw)]
   simp only [hcf, ps3, if_true]
 · unfold proveS proveB
   simp only [contra_self, Bool.and_false]
   rfl
end Go.Dr
