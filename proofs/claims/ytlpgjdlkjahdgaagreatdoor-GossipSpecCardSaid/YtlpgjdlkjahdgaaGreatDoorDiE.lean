/- directory.of; slices.IndexFunc at []api.Listing -/
import Derived.Test.YtlpgjdlkjahdgaaGreatDoorDiD
namespace Go.Dr
theorem ofL_at {dev : Int} : ∀ {l : List Lst} {k : Nat} {x : Lst}, l[k]? = some x → x.dev = dev → (∀ (j : Nat) y, j < k → l[j]? = some y → y.dev ≠ dev) → ofL l dev = some x
  | [], k, x, h, _, _ => by simp at h
  | y :: r, 0, x, h, hd, _ => by
    simp only [List.getElem?_cons_zero, Option.some.injEq] at h
    subst h
    unfold ofL
    rw [List.find?_cons_of_pos (by simpa using hd)]
  | y :: r, k + 1, x, h, hd, hn => by
    have hy := hn 0 y (by omega) rfl
    unfold ofL
    rw [List.find?_cons_of_neg (by simpa using hy)]
    exact ofL_at (k := k) (by simpa using h) hd (fun j z hj hz => hn (j + 1) z (by omega) (by simpa using hz))
theorem ofL_none {dev : Int} {l : List Lst} (hn : ∀ (j : Nat) y, l[j]? = some y → y.dev ≠ dev) : ofL l dev = none := by
  unfold ofL
  rw [List.find?_eq_none]
  intro x hx
  obtain ⟨j, hj⟩ := List.mem_iff_getElem?.1 hx
  simpa using hn j x hj
def ofX (l : List Lst) (dev : Int) : Lst := (ofL l dev).getD ⟨dev, 0, 0, 0, false⟩
end Go.Dr
namespace Go.Proofs.YtlpgjdlkjahdgaaGreatDoor
open Go.RowKit Go.Mem
open Go.Dr (Lst Rt)

set_option maxRecDepth 20000 in
set_option maxHeartbeats 1000000 in
theorem of1_any (db : Nat) (dev : Int) (t : TypeId) (x : Lst) (w : World) (H : Blk w db t [.int .i64 dev]) :
    Calls Tryz.prog 204 #[.agg (gC x).toArray, .pointer (some ⟨db, 0, none⟩)] w (RetBo (decide (x.dev = dev)) w) := by
  obtain ⟨W, hW⟩ : ∃ W, Hid (w.alloc (.cells (gC x).toArray 118) = W) := ⟨_, rfl⟩
  have c0 : W.cell? ⟨w.heap.size, 0, none⟩ = some (.int .i64 x.dev) := by rw [← hW.out]; exact (Blk.new w _ (gC x)).at_ (i := 0) rfl
  have c1 : W.cell? ⟨db, 0, none⟩ = some (.int .i64 dev) := by rw [← hW.out]; exact (H.alloc _).at_ (i := 0) rfl
  have hb : Hid (Below w.heap.size w W) := by rw [← hW.out]; exact (Below.refl _ w).alloc (Nat.le_refl _) _
  clear H
  generalize hq : decide (x.dev = dev) = q at *
  go_enter Tryz.func204, Tryz.ntmps204
  go_upto_region 1 with fail
  rw [hW.out]
  clear hW
  go_wp2_with fail
  go_ret
  exact ⟨by rw [← hq]; first | rfl | simp [beq_eq_decide], hb.out⟩

set_option maxRecDepth 20000 in
set_option maxHeartbeats 1000000 in
theorem indexG_any (K : Nat → Prop) (a : Option Addr) (n c : Nat) (l : List Lst) (db : Nat) (dev : Int) (t : TypeId) (w : World) (H : GS K w a n c l) (HB : Blk w db t [.int .i64 dev]) :
    Calls Tryz.prog 203 #[.slice a n c, .func (.func 204) #[] #[.pointer (some ⟨db, 0, none⟩)]] w
      fun e w' => (∃ i : Int, e = .returned (.int .i64 i) ∧ ((i = -1 ∧ Go.Dr.ofL l dev = none) ∨ ∃ (k : Nat) (x : Lst), i = k ∧ l[k]? = some x ∧ Go.Dr.ofL l dev = some x)) ∧ Below w.heap.size w w' := by
  have hlen := RS.len H
  have n63 : (n : Int) ≤ 9223372036854775807 := by have := RS.le H; have := RS.max H; omega
  have H' := Lib.hid H; have HB' := Lib.hid HB
  clear H HB
  obtain ⟨X, hX⟩ : ∃ X : Ending → World → Prop, X = fun e w' => (∃ i : Int, e = .returned (.int .i64 i) ∧ ((i = -1 ∧ Go.Dr.ofL l dev = none) ∨ ∃ (k : Nat) (x : Lst), i = k ∧ l[k]? = some x ∧ Go.Dr.ofL l dev = some x)) ∧ Below w.heap.size w w' := ⟨_, rfl⟩
  have hf1 : Hid (∀ (k : Nat) x W, l[k]? = some x → Go.Dr.ofL l dev = some x → Below w.heap.size w W → X (.returned (.int .i64 (k : Int))) W) := fun k x W h1 h2 h3 => by rw [hX]; exact ⟨⟨_, rfl, .inr ⟨k, x, rfl, h1, h2⟩⟩, h3⟩
  have hf2 : Hid (∀ W, Go.Dr.ofL l dev = none → Below w.heap.size w W → X (.returned (.int .i64 (-1))) W) := fun W h1 h2 => by rw [hX]; exact ⟨⟨_, rfl, .inl ⟨rfl, h1⟩⟩, h2⟩
  rw [← hX]
  clear hX
  go_enter Tryz.func203, Tryz.ntmps203
  go_wp2_with fail
  go_loopw [8] (fun i wr => ∃ k : Nat, k ≤ n ∧ i = .int .i64 k ∧ Hid (∀ (j : Nat) x, j < k → l[j]? = some x → x.dev ≠ dev) ∧ Hid (Below w.heap.size w wr)) (fun i _ => n - (intOf i).toNat)
  case atStart => exact ⟨0, Nat.zero_le _, rfl, fun _ _ h => absurd h (by omega), Below.refl _ _⟩
  case round =>
    obtain ⟨k, hk, rfl, hno, hb⟩ := hrel
    by_cases hlt : k < n
    · have hkl : k < l.length := by omega
      obtain ⟨x, he⟩ : ∃ x, l[k]? = some x := ⟨_, List.getElem?_eq_getElem hkl⟩
      obtain ⟨b, off, rfl, hbl, _, hox, hrg⟩ := GS.cells (H'.out.below hb.out) he
      have hri : Hid ((Tryz.prog.info? 118).map (·.size) = some (gC x).length) := sizeG
      have hrg' := Lib.hid hrg
      have hcl := Lib.hid (of1_any db dev t x wr (HB'.out.below hb.out HB'.out.lt))
      have he' := Lib.hid he
      have k0 : (0 : Int) ≤ (k : Int) := by omega
      have k1 : (k : Int) < (n : Int) := by omega
      obtain ⟨r, hr⟩ : ∃ r, Hid (gC x = r) := ⟨_, rfl⟩
      rw [hr.out] at hri hrg' hcl
      clear he hrg
      by_cases hde : x.dev = dev
      · rw [decide_eq_true hde] at hcl
        have hfin := Lib.hid (Go.Dr.ofL_at he'.out hde hno.out)
        clear hde hno
        go_wp2_with (first
          | (refine wpList_load_mid (by rfl) 118 (.tmp 14) (by rfl) b (off + k * 5) (by rfl) r _ hrg'.out Tryz.underlying118 (by rfl) hri.out ?_))
        refine hcl.out.mono ?_
        rintro e2 w2 ⟨rfl, hb2⟩
        have hx := hf1.out k x w2 he'.out hfin.out (hb.out.trans (hb2.mono hb.out.size))
        go_wp2_with fail
        exact hx
      · rw [decide_eq_false hde] at hcl
        have hno2 : Hid (∀ (j : Nat) x, j < k + 1 → l[j]? = some x → x.dev ≠ dev) := fun j y hj hy => by
          by_cases hjk : j = k
          · subst hjk; rw [he'.out] at hy; cases hy; exact hde
          · exact hno.out j y (by omega) hy
        clear hde hno
        go_wp2_with (first
          | (refine wpList_load_mid (by rfl) 118 (.tmp 14) (by rfl) b (off + k * 5) (by rfl) r _ hrg'.out Tryz.underlying118 (by rfl) hri.out ?_))
        refine hcl.out.mono ?_
        rintro e2 w2 ⟨rfl, hb2⟩
        have hb3 := Lib.hid (hb.out.trans (hb2.mono hb.out.size))
        go_wp2_with fail
        go_roundw
        case rel => exact ⟨k + 1, by omega, by go_num, hno2, hb3⟩
        case measure => simp [intOf]; omega
    · obtain rfl : k = n := by omega
      have hx := hf2.out wr (Go.Dr.ofL_none fun j x hx => hno.out j x (by have := (List.getElem?_eq_some_iff.1 hx).1; omega) hx) hb.out
      clear hno
      go_wp2_with fail
      exact hx

def OfPost (l : List Lst) (dev : Int) (w : World) (e : Ending) (w' : World) : Prop := e = .returned (.tuple #[.agg (gC (Go.Dr.ofX l dev)).toArray, .bool (Go.Dr.ofL l dev).isSome]) ∧ Below w.heap.size w w'

set_option maxRecDepth 20000 in
set_option maxHeartbeats 2000000 in
theorem of_any (K : Nat → Prop) (a : Option Addr) (n c : Nat) (l : List Lst) (dev : Int) (w : World) (H : GS K w a n c l) :
    Calls Tryz.prog 164 #[.slice a n c, .int .i64 dev] w (OfPost l dev w) := by
  have H' := Lib.hid H
  have hlen := RS.len H
  have n63 : (n : Int) ≤ 9223372036854775807 := by have := RS.le H; have := RS.max H; omega
  clear H
  obtain ⟨tb, htb⟩ : ∃ tb, Hid (w.heap.size = tb) := ⟨_, rfl⟩
  go_enter Tryz.func164, Tryz.ntmps164
  go_upto_region 1 with fail
  rw [htb.out]
  generalize hW : World.alloc _ _ = W
  have hX : Hid (Blk W tb 3 [.int .i64 dev]) := by rw [← hW, ← htb.out]; exact (Blk.new w _ [.int .i64 dev]).alloc _
  have hD : Hid (Blk W (tb + 1) 118 zG) := by
    rw [← hW, ← htb.out]
    have := Blk.new (w.alloc (.cells #[.int .i64 dev] 3)) 118 zG
    rw [World.size_alloc] at this
    exact this
  have hb : Hid (Below w.heap.size w W) := by rw [← hW]; exact ((Below.refl _ w).alloc (Nat.le_refl _) _).alloc (by simp) _
  clear hW
  have hG := Lib.hid (H'.out.below hb.out)
  go_wp2_with fail
  refine (indexG_any K a n c l tb dev 3 W hG.out hX.out).mono ?_
  rintro e w1 ⟨⟨i, rfl, hi⟩, hb1⟩
  have hb2 := Lib.hid (hb.out.trans (hb1.mono hb.out.size))
  have hX1 := (hX.out.below hb1 hX.out.lt).at_ (i := 0) rfl
  have hD1 := Lib.hid (hD.out.below hb1 hD.out.lt)
  have hG1 := Lib.hid (hG.out.below hb1)
  have hw := htb.out
  clear hX hD hb hG hb1
  rcases hi with ⟨rfl, hno⟩ | ⟨k, x, rfl, hk, hof⟩
  · have hfx : Go.Dr.ofX l dev = ⟨dev, 0, 0, 0, false⟩ := by unfold Go.Dr.ofX; rw [hno]; rfl
    obtain ⟨W2, hP⟩ := put_row (ty := 118) hD1.out (x := gC ⟨dev, 0, 0, 0, false⟩) rfl sizeG (gC_one _)
    have hfin : Hid (OfPost l dev w (.returned (.tuple #[.agg (gC ⟨dev, 0, 0, 0, false⟩).toArray, .bool false])) W2) := by
      refine ⟨by rw [hfx, hno]; rfl, below_grown hb2.out hP.grown hb2.out.size (by omega)⟩
    have hP' := Lib.hid hP
    clear hP hno hfx
    go_wp2_with (refine wpList_store_mid (by rfl) 118 (.tmp 4) (.tmp 13) (by rfl) (tb + 1) 0 (gC ⟨dev, 0, 0, 0, false⟩).toArray (by rfl) (by rfl) hP'.out.there hP'.out.info (by simpa using hP'.out.one) ?_
                 generalize hWq : World.setCells _ _ _ _ = Wa
                 obtain rfl : W2 = Wa := by rw [← hWq]; exact hP'.out.eq
                 clear hWq)
    exact ret_cell_tmp (p := 4) (u := 5) rfl hP'.out.blk Tryz.underlying118 rfl sizeG rfl rfl rfl hfin.out
  · have hkl := (List.getElem?_eq_some_iff.1 hk).1
    have hfx : Go.Dr.ofX l dev = x := by unfold Go.Dr.ofX; rw [hof]; rfl
    obtain ⟨b, off, rfl, hbl, _, hox, hrg⟩ := GS.cells hG1.out hk
    obtain ⟨W2, hP⟩ := put_row (ty := 118) hD1.out (x := gC x) rfl sizeG (gC_one _)
    have hfin : Hid (OfPost l dev w (.returned (.tuple #[.agg (gC x).toArray, .bool true])) W2) := by
      refine ⟨by rw [hfx, hof]; rfl, below_grown hb2.out hP.grown hb2.out.size (by omega)⟩
    have hP' := Lib.hid hP
    have hri : Hid ((Tryz.prog.info? 118).map (·.size) = some (gC x).length) := sizeG
    have hrg' := Lib.hid hrg
    have k0 : (0 : Int) ≤ (k : Int) := by omega
    have k1 : (k : Int) < (n : Int) := by omega
    have k2 : decide ((k : Int) < 0) = false := by simp
    clear hP hof hfx hk hrg hbl
    obtain ⟨r, hr⟩ : ∃ r, Hid (gC x = r) := ⟨_, rfl⟩
    rw [hr.out] at hri hrg' hP' hfin
    go_wp2_with (first
      | (refine wpList_load_mid (by rfl) 118 (.tmp 16) (by rfl) b (off + k * 5) (by rfl) r _ hrg'.out Tryz.underlying118 (by rfl) hri.out ?_)
      | (refine wpList_store_mid (by rfl) 118 (.tmp 4) (.tmp 17) (by rfl) (tb + 1) 0 r.toArray (by rfl) (by rfl) hP'.out.there hP'.out.info (by simpa using hP'.out.one) ?_
         generalize hWq : World.setCells _ _ _ _ = Wa
         obtain rfl : W2 = Wa := by rw [← hWq]; exact hP'.out.eq
         clear hWq))
    exact ret_cell_tmp (p := 4) (u := 5) rfl hP'.out.blk Tryz.underlying118 rfl hri.out rfl rfl rfl hfin.out
end Go.Proofs.YtlpgjdlkjahdgaaGreatDoor
