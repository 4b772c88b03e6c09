/- TallyOrder: the walk -/
import Derived.Test.YtlmngdcifappoaaJ
import Derived.Test.YtlmngdcifappoaaTallyPlain3
namespace Go.Proofs.Ytlmngdcifappoaa
open Go.RowKit
open Tally (Tl)

/-- a block of two numbers. -/
structure Box2 (W : World) (b : Nat) (x y : Int) : Prop where
  c0 : W.cell? ⟨b, 0, none⟩ = some (.int .i64 x)
  c1 : W.cell? ⟨b, 1, none⟩ = some (.int .i64 y)
  lt : b < W.heap.size

theorem Box2.below {W W' : World} {b : Nat} {x y : Int} (h : Box2 W b x y) (hb : Below W.heap.size W W') : Box2 W' b x y :=
  ⟨(hb.cell (p := ⟨b, 0, none⟩) h.lt).trans h.c0, (hb.cell (p := ⟨b, 1, none⟩) h.lt).trans h.c1, Nat.lt_of_lt_of_le h.lt hb.size⟩

theorem Box2.new (w : World) (x y : Int) (t : TypeId) : Box2 (w.alloc (.cells #[.int .i64 x, .int .i64 y] t)) w.heap.size x y :=
  ⟨(cell_new2 w _ _ t).1, (cell_new2 w _ _ t).2, by simp⟩

def Tr (w : World) (e : Ending) (w' : World) : Prop := e = .returned (.bool true) ∧ Below w.heap.size w w'

set_option maxHeartbeats 4000000 in
set_option maxRecDepth 100000 in
theorem order_walk (a : Option Addr) (n c : Nat) (l : List Tl) (da sa db sb m k : Int) (w : World) (H : TS w a n c l) (i1 : InI da) (i2 : InI sa) (i3 : InI db) (i4 : InI sb) (i5 : InI m) (i6 : InI k) :
    Calls Try.prog 5 #[.slice a n c, .agg #[.int .i64 da, .int .i64 sa], .agg #[.int .i64 db, .int .i64 sb], .int .i64 m, .int .i64 k] w (Tr w) := by
  have hb00 : Below w.heap.size w (w.alloc (.cells #[.int .i64 da, .int .i64 sa] 24)) := (Below.refl _ _).alloc (Nat.le_refl _) _
  have hb0 : Below w.heap.size w ((w.alloc (.cells #[.int .i64 da, .int .i64 sa] 24)).alloc (.cells #[.int .i64 db, .int .i64 sb] 24)) := hb00.alloc (by simp) _
  have BA0 := (Box2.new w da sa 24).below ((Below.refl _ (w.alloc (.cells #[.int .i64 da, .int .i64 sa] 24))).alloc (Nat.le_refl _) (.cells #[.int .i64 db, .int .i64 sb] 24))
  have BB0 := Box2.new (w.alloc (.cells #[.int .i64 da, .int .i64 sa] 24)) db sb 24
  rw [World.size_alloc] at BB0
  have T0 := H.below hb0 (Nat.le_refl _)
  obtain ⟨W0, hW0⟩ : ∃ W0, W0 = (w.alloc (.cells #[.int .i64 da, .int .i64 sa] 24)).alloc (.cells #[.int .i64 db, .int .i64 sb] 24) := ⟨_, rfl⟩
  rw [← hW0] at hb0 BA0 BB0 T0
  by_cases hn : n ≤ 60
  · have hf : (decide (n ≤ 60) && decide (0 ≤ 60)) = true := by simp [hn]
    by_cases hd : da = db
    · subst hd
      have hf' := hf
      go_enter Try.func5, Try.ntmps5
      go_wp2_with fail
      rw [← hW0]
      refine (sane_any W0).mono ?_
      rintro e w1 ⟨rfl, hb1⟩
      obtain ⟨x0, x1, _⟩ := BA0.below hb1
      obtain ⟨y0, y1, _⟩ := BB0.below hb1
      go_wp2_with fail
      refine (few_any _ _ _ _ _ _ _).mono ?_
      rintro e w2 ⟨rfl, rfl⟩
      go_wp2_with fail
      go_ret
      exact ⟨rfl, hb0.trans (hb1.mono hb0.size)⟩
    · have hne : (da == db) = false := by simpa using hd
      by_cases hx : (Tally.addSpec l da sa m).2 = 0
      · by_cases hy : (Tally.addSpec l db sb k).2 = 0
        · obtain ⟨x, _, _, _, ex⟩ := Tally.addSpec_ok hx
          obtain ⟨y, _, _, _, ey⟩ := Tally.addSpec_ok hy
          obtain ⟨hcl, z, ez1, ez2, hcz, hvz⟩ := Tally.order hd ex ey
          have lx := Tally.addSpec_length l da sa m
          have ly := Tally.addSpec_length l db sb k
          rw [ex] at lx
          rw [ey] at ly
          rw [H.len] at lx ly
          have ev := Lib.hid (Tally.valueSpec_ok hcl)
          have evz := Lib.hid (Tally.valueSpec_ok hcz)
          have hE := Tally.chkE_t hcz
          have hS := Tally.same_self z
          have hvz' : (Tally.value z == wrap64 (wrap64 (Tally.value l + m) + k)) = true := by simp [hvz]
          have ex' := Lib.hid ex
          have ey' := Lib.hid ey
          have ez1' := Lib.hid ez1
          have ez2' := Lib.hid ez2
          have hd' := Lib.hid hd
          clear hx hy ex ey hcl hcz ez1 ez2 hvz hd
          go_enter Try.func5, Try.ntmps5
          go_wp2_with fail
          rw [← hW0]
          refine (sane_any W0).mono ?_
          rintro e w1 ⟨rfl, hb1⟩
          have BA1 := BA0.below hb1
          have BB1 := BB0.below hb1
          have T1 := T0.below hb1 (Nat.le_refl _)
          have hB1 := hb0.trans (hb1.mono hb0.size)
          have p0 := BA1.c0; have p1 := BA1.c1
          have q0 := BB1.c0; have q1 := BB1.c1
          go_wp2_with fail
          refine (few_any _ _ _ _ _ _ _).mono ?_
          rintro e w2 ⟨rfl, rfl⟩
          go_wp2_with fail
          refine (add_t a n c l da sa m w1 T1 (by omega) i1 i2 i5 x x.length 0 ex'.out rfl).mono ?_
          rintro e w2 ⟨ax, cx, rfl, TX2, hb2⟩
          have T2 := T1.below hb2 (Nat.le_refl _)
          have BA2 := BA1.below hb2
          have BB2 := BB1.below hb2
          have hB2 := hB1.trans (hb2.mono hB1.size)
          have p0 := BA2.c0; have p1 := BA2.c1
          have q0 := BB2.c0; have q1 := BB2.c1
          go_wp2_with fail
          refine (add_t a n c l db sb k w2 T2 (by omega) i3 i4 i6 y y.length 0 ey'.out rfl).mono ?_
          rintro e w3 ⟨ay, cy, rfl, TY3, hb3⟩
          have T3 := T2.below hb3 (Nat.le_refl _)
          have TX3 := TX2.below hb3 (Nat.le_refl _)
          have BA3 := BA2.below hb3
          have BB3 := BB2.below hb3
          have hB3 := hB2.trans (hb3.mono hB2.size)
          have p0 := BA3.c0; have p1 := BA3.c1
          have q0 := BB3.c0; have q1 := BB3.c1
          go_wp2_with fail
          refine (add_t ax x.length cx x db sb k w3 TX3 (by omega) i3 i4 i6 z z.length 0 ez1'.out rfl).mono ?_
          rintro e w4 ⟨ap, cp, rfl, TP4, hb4⟩
          have T4 := T3.below hb4 (Nat.le_refl _)
          have TY4 := TY3.below hb4 (Nat.le_refl _)
          have BA4 := BA3.below hb4
          have hB4 := hB3.trans (hb4.mono hB3.size)
          have p0 := BA4.c0; have p1 := BA4.c1
          go_wp2_with fail
          refine (add_t ay y.length cy y da sa m w4 TY4 (by omega) i1 i2 i5 z z.length 0 ez2'.out rfl).mono ?_
          rintro e w5 ⟨aq, cq, rfl, TQ5, hb5⟩
          have T5 := T4.below hb5 (Nat.le_refl _)
          have TP5 := TP4.below hb5 (Nat.le_refl _)
          have hB5 := hB4.trans (hb5.mono hB4.size)
          go_wp2_with fail
          refine (value_t a n c l w5 T5 _ _ ev.out).mono ?_
          rintro e w6 ⟨rfl, hb6⟩
          have TP6 := TP5.below hb6 (Nat.le_refl _)
          have TQ6 := TQ5.below hb6 (Nat.le_refl _)
          have hB6 := hB5.trans (hb6.mono hB5.size)
          go_wp2_with fail
          refine (value_t ap z.length cp z w6 TP6 _ _ evz.out).mono ?_
          rintro e w7 ⟨rfl, hb7⟩
          have TP7 := TP6.below hb7 (Nat.le_refl _)
          have TQ7 := TQ6.below hb7 (Nat.le_refl _)
          have hB7 := hB6.trans (hb7.mono hB6.size)
          go_wp2_with fail
          refine (same_any ap aq z.length cp z.length cq z z w7 TP7 TQ7).mono ?_
          rintro e w8 ⟨rfl, hb8⟩
          have TP8 := TP7.below hb8 (Nat.le_refl _)
          have hB8 := hB7.trans (hb8.mono hB7.size)
          go_wp2_with fail
          refine (check_any ap z.length cp z w8 TP8).mono ?_
          rintro e w9 ⟨rfl, hb9⟩
          have hB9 := hB8.trans (hb9.mono hB8.size)
          go_wp2_with fail
          go_ret
          exact ⟨rfl, hB9⟩
        · obtain ⟨x, e1, ex⟩ : ∃ x e1, Hid (Tally.addSpec l da sa m = (x, e1)) := ⟨_, _, rfl⟩
          obtain ⟨y, e2, ey⟩ : ∃ y e2, Hid (Tally.addSpec l db sb k = (y, e2)) := ⟨_, _, rfl⟩
          have h1 : (e1 != 0) = false := by rw [ex.out] at hx; simpa using hx
          have h2 : (e2 != 0) = true := by rw [ey.out] at hy; simpa using hy
          have hd' := Lib.hid hd
          clear hx hy hd
          go_enter Try.func5, Try.ntmps5
          go_wp2_with fail
          rw [← hW0]
          refine (sane_any W0).mono ?_
          rintro e w1 ⟨rfl, hb1⟩
          have BA1 := BA0.below hb1
          have BB1 := BB0.below hb1
          have T1 := T0.below hb1 (Nat.le_refl _)
          have hB1 := hb0.trans (hb1.mono hb0.size)
          have p0 := BA1.c0; have p1 := BA1.c1
          have q0 := BB1.c0; have q1 := BB1.c1
          go_wp2_with fail
          refine (few_any _ _ _ _ _ _ _).mono ?_
          rintro e w2 ⟨rfl, rfl⟩
          go_wp2_with fail
          refine (add_t a n c l da sa m w1 T1 (by omega) i1 i2 i5 x x.length e1 ex.out rfl).mono ?_
          rintro e w2 ⟨ax, cx, rfl, TX2, hb2⟩
          have T2 := T1.below hb2 (Nat.le_refl _)
          have BA2 := BA1.below hb2
          have BB2 := BB1.below hb2
          have hB2 := hB1.trans (hb2.mono hB1.size)
          have p0 := BA2.c0; have p1 := BA2.c1
          have q0 := BB2.c0; have q1 := BB2.c1
          go_wp2_with fail
          refine (add_t a n c l db sb k w2 T2 (by omega) i3 i4 i6 y y.length e2 ey.out rfl).mono ?_
          rintro e w3 ⟨ay, cy, rfl, TY3, hb3⟩
          have hB3 := hB2.trans (hb3.mono hB2.size)
          go_wp2_with fail
          go_ret
          exact ⟨rfl, hB3⟩
      · obtain ⟨x, e1, ex⟩ : ∃ x e1, Hid (Tally.addSpec l da sa m = (x, e1)) := ⟨_, _, rfl⟩
        obtain ⟨y, e2, ey⟩ : ∃ y e2, Hid (Tally.addSpec l db sb k = (y, e2)) := ⟨_, _, rfl⟩
        have h1 : (e1 != 0) = true := by rw [ex.out] at hx; simpa using hx
        have hd' := Lib.hid hd
        clear hx hd
        go_enter Try.func5, Try.ntmps5
        go_wp2_with fail
        rw [← hW0]
        refine (sane_any W0).mono ?_
        rintro e w1 ⟨rfl, hb1⟩
        have BA1 := BA0.below hb1
        have BB1 := BB0.below hb1
        have T1 := T0.below hb1 (Nat.le_refl _)
        have hB1 := hb0.trans (hb1.mono hb0.size)
        have p0 := BA1.c0; have p1 := BA1.c1
        have q0 := BB1.c0; have q1 := BB1.c1
        go_wp2_with fail
        refine (few_any _ _ _ _ _ _ _).mono ?_
        rintro e w2 ⟨rfl, rfl⟩
        go_wp2_with fail
        refine (add_t a n c l da sa m w1 T1 (by omega) i1 i2 i5 x x.length e1 ex.out rfl).mono ?_
        rintro e w2 ⟨ax, cx, rfl, TX2, hb2⟩
        have T2 := T1.below hb2 (Nat.le_refl _)
        have BA2 := BA1.below hb2
        have BB2 := BB1.below hb2
        have hB2 := hB1.trans (hb2.mono hB1.size)
        have p0 := BA2.c0; have p1 := BA2.c1
        have q0 := BB2.c0; have q1 := BB2.c1
        go_wp2_with fail
        refine (add_t a n c l db sb k w2 T2 (by omega) i3 i4 i6 y y.length e2 ey.out rfl).mono ?_
        rintro e w3 ⟨ay, cy, rfl, TY3, hb3⟩
        have hB3 := hB2.trans (hb3.mono hB2.size)
        go_wp2_with fail
        go_ret
        exact ⟨rfl, hB3⟩
  · have hf : (decide (n ≤ 60) && decide (0 ≤ 60)) = false := by simp [hn]
    go_enter Try.func5, Try.ntmps5
    go_wp2_with fail
    rw [← hW0]
    refine (sane_any W0).mono ?_
    rintro e w1 ⟨rfl, hb1⟩
    go_wp2_with fail
    refine (few_any _ _ _ _ _ _ _).mono ?_
    rintro e w2 ⟨rfl, rfl⟩
    go_wp2_with fail
    go_ret
    exact ⟨rfl, hb0.trans (hb1.mono hb0.size)⟩

end Go.Proofs.Ytlmngdcifappoaa
