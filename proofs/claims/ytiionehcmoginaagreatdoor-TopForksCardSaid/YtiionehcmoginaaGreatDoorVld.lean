/- views.valid -/
import Derived.Test.YtiionehcmoginaaGreatDoorVwB
import Derived.IntWalk
namespace Go.Proofs.YtiionehcmoginaaGreatDoor
open Go.RowKit Go.Mem Go.Shelf
open Go.Vw (Hd fitsB oddP oddI zeroH lastH ownsB verH validB headOk headsOk rangeB)

def prevN (hs : List Hd) (k : Nat) : Option Int := if k = 0 then none else (hs[k - 1]?).map (·.no)
theorem field_g (g : Nat → Nat) (st fo no R S : Int) (W : World) : (Instr.field 36 (.agg (headC st fo no ((List.range 32).map g) R S).toArray) 2).run Tryz.prog W = .ok (.int .i64 no) W := by kernel_rfl
theorem field_no {h : Hd} (ok : OkH h) (W : World) : (Instr.field 36 (.agg (hdC h).toArray) 2).run Tryz.prog W = .ok (.int .i64 h.no) W := by
 unfold hdC
 rw [as_range ok.ch.1]
 exact field_g _ _ _ _ _ _ W
theorem HS.ok {w : World} {a : Option Addr} {n c : Nat} {l : List Hd} (H : HS w a n c l) {h : Hd} (hh : h ∈ l) : OkH h := by
 obtain ⟨k, hk⟩ := List.mem_iff_getElem?.1 hh
 obtain ⟨_, _, _, _, ok, _⟩ := H.get hk
 exact ok
theorem HS.last {w : World} {a : Option Addr} {n c : Nat} {l : List Hd} (H : HS w a n c l) : OkH (lastH l) := by
 cases l with
 | nil => exact okH0
 | cons x r => exact H.ok (Vw.lastH_mem (by simp))
theorem headsOk_drop {v : Vw.V} {p : Option Int} {k : Nat} {h : Hd} (he : v.hs[k]? = some h) : headsOk v p (v.hs.drop k) = (headOk v p h && headsOk v (some h.no) (v.hs.drop (k + 1))) := by
 have hk := (List.getElem?_eq_some_iff.1 he).1
 rw [List.drop_eq_getElem_cons hk, (List.getElem?_eq_some_iff.1 he).2]
 rfl
theorem headsOk_end {v : Vw.V} {p : Option Int} {k : Nat} (hk : v.hs.length ≤ k) : headsOk v p (v.hs.drop k) = true := by
 rw [List.drop_eq_nil_of_le hk]; rfl

set_option maxRecDepth 20000 in
set_option maxHeartbeats 8000000 in
theorem viewValid_any (v : Vw.V) (da : Option Addr) (dn dc : Nat) (ha : Option Addr) (hn hc : Nat) (w : World) (HT : Tabs w) (H : VM w v da dn dc ha hn hc) :
 Calls Tryz.prog 42 #[.agg #[.int .i64 v.st, .int .i64 v.fo, .int .i64 v.pub, .slice da dn dc, .slice ha hn hc]] w (RetBo (validB v) w) := by
 have hlen := H.hs.rs.len
 have hnb := H.hs.bd
 have hdn := H.ds.len
 have hbd := H.bd
 have n63 : (hn : Int) ≤ 100000 := by omega
 have d63 : (dn : Int) ≤ 100000 := by omega
 have H' := Lib.hid H; have HT' := Lib.hid HT
 clear H HT
 obtain ⟨tb, htb⟩ : ∃ tb, Hid (w.heap.size = tb) := ⟨_, rfl⟩
 obtain ⟨W1, hW1⟩ : ∃ W1, W1 = w.alloc (.cells #[.int .i64 v.st, .int .i64 v.fo, .int .i64 v.pub, .slice da dn dc, .slice ha hn hc] 94) := ⟨_, rfl⟩
 have hbv : Hid (Blk W1 tb 94 [.int .i64 v.st, .int .i64 v.fo, .int .i64 v.pub, .slice da dn dc, .slice ha hn hc]) := by rw [hW1, ← htb.out]; exact Blk.new w _ _
 have hb1 : Hid (Below w.heap.size w W1) := by rw [hW1]; exact (Below.refl _ w).alloc (Nat.le_refl _) _
 have c0 := hbv.out.at_ (i := 0) rfl
 have c1 := hbv.out.at_ (i := 1) rfl
 have c2 := hbv.out.at_ (i := 2) rfl
 have c3 := hbv.out.at_ (i := 3) rfl
 have c4 := hbv.out.at_ (i := 4) rfl
 have hlt := hbv.out.lt
 obtain ⟨B0, hB0⟩ : ∃ B, Hid (validB v = B) := ⟨_, rfl⟩
 obtain ⟨X, hX⟩ : ∃ X, X = RetBo (validB v) w := ⟨_, rfl⟩
 have hret : Hid (∀ W, Below w.heap.size w W → X (.returned (.bool B0)) W) := fun W h => by rw [hX, hB0.out]; exact ⟨rfl, h⟩
 rw [← hX]
 clear hX
 have hv : validB v = (decide (0 ≤ v.st ∧ v.st < 4) && decide (0 ≤ v.fo ∧ v.fo < 16) && decide ((lastH v.hs).no = v.ds.length) && headsOk v none v.hs) := rfl
 rw [hB0.out] at hv
 by_cases hrange : (0 ≤ v.st ∧ v.st < 4) ∧ (0 ≤ v.fo ∧ v.fo < 16)
 case neg =>
  have hB : B0 = false := by
   rw [hv]
   by_cases a1 : 0 ≤ v.st ∧ v.st < 4
   · have a2 : ¬ (0 ≤ v.fo ∧ v.fo < 16) := fun h => hrange ⟨a1, h⟩
     simp [a2]
   · simp [a1]
  subst hB
  clear hv hB0
  have hcs : decide (v.st < 0) = true ∨ (decide (v.st < 0) = false ∧ decide (4 ≤ v.st) = true) ∨ (decide (v.st < 0) = false ∧ decide (4 ≤ v.st) = false ∧ decide (v.fo < 0) = true) ∨ (decide (v.st < 0) = false ∧ decide (4 ≤ v.st) = false ∧ decide (v.fo < 0) = false ∧ decide (16 ≤ v.fo) = true) := by
   simp only [decide_eq_true_eq, decide_eq_false_iff_not]
   omega
  clear hrange
  rcases hcs with g0 | ⟨g0, g1⟩ | ⟨g0, g1, g2⟩ | ⟨g0, g1, g2, g3⟩
  all_goals
   go_enter Tryz.func42, Tryz.ntmps42
   go_upto_region 1 with fail
   rw [htb.out]
   generalize hWq : w.alloc _ = Wq
   obtain rfl : W1 = Wq := by rw [← hWq, hW1]
   clear hWq hW1
   go_quiet (fail)
   have hfin := Lib.hid (hret.out _ (below_drewN' hb1.out nq))
   go_wp2_with fail
   exact hfin.out
 case pos =>
  obtain ⟨⟨s0, s1⟩, f0, f1⟩ := hrange
  have g0 : decide (v.st < 0) = false := decide_eq_false (by omega)
  have g1 : decide (4 ≤ v.st) = false := decide_eq_false (by omega)
  have g2 : decide (v.fo < 0) = false := decide_eq_false (by omega)
  have g3 : decide (16 ≤ v.fo) = false := decide_eq_false (by omega)
  rw [decide_eq_true ⟨s0, s1⟩, decide_eq_true ⟨f0, f1⟩, Bool.true_and, Bool.true_and] at hv
  have hlast := Lib.hid (fun W (h : VM W v da dn dc ha hn hc) => last_any v da dn dc ha hn hc W h)
  obtain ⟨L, hL⟩ : ∃ L, Hid (lastH v.hs = L) := ⟨_, rfl⟩
  rw [hL.out] at hlast hv
  have hLk : OkH L := by rw [← hL.out]; exact H'.out.hs.last
  have hL2 := fun W => field_no hLk W
  have hLn := hLk.no
  unfold I64 at hLn
  clear hLk
  clear s0 s1 f0 f1
  obtain ⟨gN, hgN⟩ : ∃ g, Hid ((L.no != (dn : Int)) = g) := ⟨_, rfl⟩
  have hg5 := hgN.out
  have hv' := Lib.hid hv
  clear hv
  go_enter Tryz.func42, Tryz.ntmps42
  go_upto_region 1 with fail
  rw [htb.out]
  generalize hWq : w.alloc _ = Wq
  obtain rfl : W1 = Wq := by rw [← hWq, hW1]
  clear hWq hW1
  refine wp_region_held_drew (S := fun wz => Below W1.heap.size W1 wz) (by kernel_rfl) ((Below.refl _ W1).drew) (fun hHeld => ?_)
  refine tk (i := 0) (oi := ⟨some 5, .fieldAddr 94 (.tmp 1) 0, 0, "views.go:63", #[], none⟩) (v := ?_) rfl (Or.inl ⟨by rfl, ?_⟩) hHeld ?_
  rotate_left
  · intro wz hSw
    have q0 := (hSw.cell (p := ⟨tb, 0, none⟩) hlt).trans c0
    have q1 := (hSw.cell (p := ⟨tb, 1, none⟩) hlt).trans c1
    have q2 := (hSw.cell (p := ⟨tb, 2, none⟩) hlt).trans c2
    have q3 := (hSw.cell (p := ⟨tb, 3, none⟩) hlt).trans c3
    have q4 := (hSw.cell (p := ⟨tb, 4, none⟩) hlt).trans c4
    go_simp
    all_goals (with_reducible rfl)
  try simp only [Act.put, sA, s0, s1]
  refine tk (i := 1) (oi := ⟨some 6, .fieldAddr 45 (.tmp 5) 0, 0, "views.go:63", #[⟨0, .data⟩], none⟩) (v := ?_) rfl (Or.inl ⟨by rfl, ?_⟩) hHeld ?_
  rotate_left
  · intro wz hSw
    have q0 := (hSw.cell (p := ⟨tb, 0, none⟩) hlt).trans c0
    have q1 := (hSw.cell (p := ⟨tb, 1, none⟩) hlt).trans c1
    have q2 := (hSw.cell (p := ⟨tb, 2, none⟩) hlt).trans c2
    have q3 := (hSw.cell (p := ⟨tb, 3, none⟩) hlt).trans c3
    have q4 := (hSw.cell (p := ⟨tb, 4, none⟩) hlt).trans c4
    go_simp
    all_goals (with_reducible rfl)
  try simp only [Act.put, sA, s0, s1]
  refine tk (i := 2) (oi := ⟨some 7, .load 3 (.tmp 6), 3, "views.go:63", #[⟨1, .data⟩], none⟩) (v := ?_) rfl (Or.inl ⟨by rfl, ?_⟩) hHeld ?_
  rotate_left
  · intro wz hSw
    have q0 := (hSw.cell (p := ⟨tb, 0, none⟩) hlt).trans c0
    have q1 := (hSw.cell (p := ⟨tb, 1, none⟩) hlt).trans c1
    have q2 := (hSw.cell (p := ⟨tb, 2, none⟩) hlt).trans c2
    have q3 := (hSw.cell (p := ⟨tb, 3, none⟩) hlt).trans c3
    have q4 := (hSw.cell (p := ⟨tb, 4, none⟩) hlt).trans c4
    go_simp
    all_goals (with_reducible rfl)
  try simp only [Act.put, sA, s0, s1]
  refine tk (i := 3) (oi := ⟨some 8, .binOp .lss 3 (.tmp 7) (.const (.int .i64 0)) 3, 4, "views.go:63", #[⟨2, .data⟩], none⟩) (v := ?_) rfl (Or.inl ⟨by rfl, ?_⟩) hHeld ?_
  rotate_left
  · intro wz hSw
    have q0 := (hSw.cell (p := ⟨tb, 0, none⟩) hlt).trans c0
    have q1 := (hSw.cell (p := ⟨tb, 1, none⟩) hlt).trans c1
    have q2 := (hSw.cell (p := ⟨tb, 2, none⟩) hlt).trans c2
    have q3 := (hSw.cell (p := ⟨tb, 3, none⟩) hlt).trans c3
    have q4 := (hSw.cell (p := ⟨tb, 4, none⟩) hlt).trans c4
    go_simp
    all_goals (with_reducible rfl)
  try simp only [Act.put, sA, s0, s1]
  refine tk (i := 4) (oi := ⟨some 9, .move (.tmp 8), 4, "views.go:63", #[⟨3, .data⟩], none⟩) (v := ?_) rfl (Or.inl ⟨by rfl, ?_⟩) hHeld ?_
  rotate_left
  · intro wz hSw
    have q0 := (hSw.cell (p := ⟨tb, 0, none⟩) hlt).trans c0
    have q1 := (hSw.cell (p := ⟨tb, 1, none⟩) hlt).trans c1
    have q2 := (hSw.cell (p := ⟨tb, 2, none⟩) hlt).trans c2
    have q3 := (hSw.cell (p := ⟨tb, 3, none⟩) hlt).trans c3
    have q4 := (hSw.cell (p := ⟨tb, 4, none⟩) hlt).trans c4
    go_simp
    all_goals (with_reducible rfl)
  try simp only [Act.put, sA, s0, s1]
  refine tk (i := 5) (oi := ⟨some 10, .fieldAddr 94 (.tmp 1) 0, 0, "views.go:63", #[⟨4, .guard⟩], some (4, false)⟩) (v := ?_) rfl (Or.inl ⟨by rfl, ?_⟩) hHeld ?_
  rotate_left
  · intro wz hSw
    have q0 := (hSw.cell (p := ⟨tb, 0, none⟩) hlt).trans c0
    have q1 := (hSw.cell (p := ⟨tb, 1, none⟩) hlt).trans c1
    have q2 := (hSw.cell (p := ⟨tb, 2, none⟩) hlt).trans c2
    have q3 := (hSw.cell (p := ⟨tb, 3, none⟩) hlt).trans c3
    have q4 := (hSw.cell (p := ⟨tb, 4, none⟩) hlt).trans c4
    go_simp
    all_goals (with_reducible rfl)
  try simp only [Act.put, sA, s0, s1]
  refine tk (i := 6) (oi := ⟨some 11, .fieldAddr 45 (.tmp 10) 0, 0, "views.go:63", #[⟨5, .data⟩, ⟨4, .guard⟩], some (4, false)⟩) (v := ?_) rfl (Or.inl ⟨by rfl, ?_⟩) hHeld ?_
  rotate_left
  · intro wz hSw
    have q0 := (hSw.cell (p := ⟨tb, 0, none⟩) hlt).trans c0
    have q1 := (hSw.cell (p := ⟨tb, 1, none⟩) hlt).trans c1
    have q2 := (hSw.cell (p := ⟨tb, 2, none⟩) hlt).trans c2
    have q3 := (hSw.cell (p := ⟨tb, 3, none⟩) hlt).trans c3
    have q4 := (hSw.cell (p := ⟨tb, 4, none⟩) hlt).trans c4
    go_simp
    all_goals (with_reducible rfl)
  try simp only [Act.put, sA, s0, s1]
  refine tk (i := 7) (oi := ⟨some 12, .load 3 (.tmp 11), 3, "views.go:63", #[⟨6, .data⟩, ⟨4, .guard⟩], some (4, false)⟩) (v := ?_) rfl (Or.inl ⟨by rfl, ?_⟩) hHeld ?_
  rotate_left
  · intro wz hSw
    have q0 := (hSw.cell (p := ⟨tb, 0, none⟩) hlt).trans c0
    have q1 := (hSw.cell (p := ⟨tb, 1, none⟩) hlt).trans c1
    have q2 := (hSw.cell (p := ⟨tb, 2, none⟩) hlt).trans c2
    have q3 := (hSw.cell (p := ⟨tb, 3, none⟩) hlt).trans c3
    have q4 := (hSw.cell (p := ⟨tb, 4, none⟩) hlt).trans c4
    go_simp
    all_goals (with_reducible rfl)
  try simp only [Act.put, sA, s0, s1]
  refine tk (i := 8) (oi := ⟨some 13, .binOp .geq 3 (.tmp 12) (.const (.int .i64 4)) 3, 4, "views.go:63", #[⟨7, .data⟩, ⟨4, .guard⟩], some (4, false)⟩) (v := ?_) rfl (Or.inl ⟨by rfl, ?_⟩) hHeld ?_
  rotate_left
  · intro wz hSw
    have q0 := (hSw.cell (p := ⟨tb, 0, none⟩) hlt).trans c0
    have q1 := (hSw.cell (p := ⟨tb, 1, none⟩) hlt).trans c1
    have q2 := (hSw.cell (p := ⟨tb, 2, none⟩) hlt).trans c2
    have q3 := (hSw.cell (p := ⟨tb, 3, none⟩) hlt).trans c3
    have q4 := (hSw.cell (p := ⟨tb, 4, none⟩) hlt).trans c4
    go_simp
    all_goals (with_reducible rfl)
  try simp only [Act.put, sA, s0, s1]
  refine tk (i := 9) (oi := ⟨some 14, .pick (.tmp 9) (.const (.bool true)) (.tmp 13), 4, "views.go:63", #[⟨4, .data⟩, ⟨8, .data⟩], none⟩) (v := ?_) rfl (Or.inl ⟨by rfl, ?_⟩) hHeld ?_
  rotate_left
  · intro wz hSw
    have q0 := (hSw.cell (p := ⟨tb, 0, none⟩) hlt).trans c0
    have q1 := (hSw.cell (p := ⟨tb, 1, none⟩) hlt).trans c1
    have q2 := (hSw.cell (p := ⟨tb, 2, none⟩) hlt).trans c2
    have q3 := (hSw.cell (p := ⟨tb, 3, none⟩) hlt).trans c3
    have q4 := (hSw.cell (p := ⟨tb, 4, none⟩) hlt).trans c4
    go_simp
    all_goals (with_reducible rfl)
  try simp only [Act.put, sA, s0, s1]
  refine tk (i := 10) (oi := ⟨some 15, .move (.tmp 14), 4, "views.go:63", #[⟨9, .data⟩, ⟨4, .chain⟩], none⟩) (v := ?_) rfl (Or.inl ⟨by rfl, ?_⟩) hHeld ?_
  rotate_left
  · intro wz hSw
    have q0 := (hSw.cell (p := ⟨tb, 0, none⟩) hlt).trans c0
    have q1 := (hSw.cell (p := ⟨tb, 1, none⟩) hlt).trans c1
    have q2 := (hSw.cell (p := ⟨tb, 2, none⟩) hlt).trans c2
    have q3 := (hSw.cell (p := ⟨tb, 3, none⟩) hlt).trans c3
    have q4 := (hSw.cell (p := ⟨tb, 4, none⟩) hlt).trans c4
    go_simp
    all_goals (with_reducible rfl)
  try simp only [Act.put, sA, s0, s1]
  refine tk (i := 11) (oi := ⟨some 16, .fieldAddr 94 (.tmp 1) 0, 0, "views.go:63", #[⟨10, .guard⟩], some (10, false)⟩) (v := ?_) rfl (Or.inl ⟨by rfl, ?_⟩) hHeld ?_
  rotate_left
  · intro wz hSw
    have q0 := (hSw.cell (p := ⟨tb, 0, none⟩) hlt).trans c0
    have q1 := (hSw.cell (p := ⟨tb, 1, none⟩) hlt).trans c1
    have q2 := (hSw.cell (p := ⟨tb, 2, none⟩) hlt).trans c2
    have q3 := (hSw.cell (p := ⟨tb, 3, none⟩) hlt).trans c3
    have q4 := (hSw.cell (p := ⟨tb, 4, none⟩) hlt).trans c4
    go_simp
    all_goals (with_reducible rfl)
  try simp only [Act.put, sA, s0, s1]
  refine tk (i := 12) (oi := ⟨some 17, .fieldAddr 45 (.tmp 16) 1, 0, "views.go:63", #[⟨11, .data⟩, ⟨10, .guard⟩], some (10, false)⟩) (v := ?_) rfl (Or.inl ⟨by rfl, ?_⟩) hHeld ?_
  rotate_left
  · intro wz hSw
    have q0 := (hSw.cell (p := ⟨tb, 0, none⟩) hlt).trans c0
    have q1 := (hSw.cell (p := ⟨tb, 1, none⟩) hlt).trans c1
    have q2 := (hSw.cell (p := ⟨tb, 2, none⟩) hlt).trans c2
    have q3 := (hSw.cell (p := ⟨tb, 3, none⟩) hlt).trans c3
    have q4 := (hSw.cell (p := ⟨tb, 4, none⟩) hlt).trans c4
    go_simp
    all_goals (with_reducible rfl)
  try simp only [Act.put, sA, s0, s1]
  refine tk (i := 13) (oi := ⟨some 18, .load 3 (.tmp 17), 3, "views.go:63", #[⟨12, .data⟩, ⟨10, .guard⟩], some (10, false)⟩) (v := ?_) rfl (Or.inl ⟨by rfl, ?_⟩) hHeld ?_
  rotate_left
  · intro wz hSw
    have q0 := (hSw.cell (p := ⟨tb, 0, none⟩) hlt).trans c0
    have q1 := (hSw.cell (p := ⟨tb, 1, none⟩) hlt).trans c1
    have q2 := (hSw.cell (p := ⟨tb, 2, none⟩) hlt).trans c2
    have q3 := (hSw.cell (p := ⟨tb, 3, none⟩) hlt).trans c3
    have q4 := (hSw.cell (p := ⟨tb, 4, none⟩) hlt).trans c4
    go_simp
    all_goals (with_reducible rfl)
  try simp only [Act.put, sA, s0, s1]
  refine tk (i := 14) (oi := ⟨some 19, .binOp .lss 3 (.tmp 18) (.const (.int .i64 0)) 3, 4, "views.go:63", #[⟨13, .data⟩, ⟨10, .guard⟩], some (10, false)⟩) (v := ?_) rfl (Or.inl ⟨by rfl, ?_⟩) hHeld ?_
  rotate_left
  · intro wz hSw
    have q0 := (hSw.cell (p := ⟨tb, 0, none⟩) hlt).trans c0
    have q1 := (hSw.cell (p := ⟨tb, 1, none⟩) hlt).trans c1
    have q2 := (hSw.cell (p := ⟨tb, 2, none⟩) hlt).trans c2
    have q3 := (hSw.cell (p := ⟨tb, 3, none⟩) hlt).trans c3
    have q4 := (hSw.cell (p := ⟨tb, 4, none⟩) hlt).trans c4
    go_simp
    all_goals (with_reducible rfl)
  try simp only [Act.put, sA, s0, s1]
  refine tk (i := 15) (oi := ⟨some 20, .pick (.tmp 15) (.const (.bool true)) (.tmp 19), 4, "views.go:63", #[⟨10, .data⟩, ⟨14, .data⟩], none⟩) (v := ?_) rfl (Or.inl ⟨by rfl, ?_⟩) hHeld ?_
  rotate_left
  · intro wz hSw
    have q0 := (hSw.cell (p := ⟨tb, 0, none⟩) hlt).trans c0
    have q1 := (hSw.cell (p := ⟨tb, 1, none⟩) hlt).trans c1
    have q2 := (hSw.cell (p := ⟨tb, 2, none⟩) hlt).trans c2
    have q3 := (hSw.cell (p := ⟨tb, 3, none⟩) hlt).trans c3
    have q4 := (hSw.cell (p := ⟨tb, 4, none⟩) hlt).trans c4
    go_simp
    all_goals (with_reducible rfl)
  try simp only [Act.put, sA, s0, s1]
  refine tk (i := 16) (oi := ⟨some 21, .move (.tmp 20), 4, "views.go:63", #[⟨15, .data⟩, ⟨10, .chain⟩], none⟩) (v := ?_) rfl (Or.inl ⟨by rfl, ?_⟩) hHeld ?_
  rotate_left
  · intro wz hSw
    have q0 := (hSw.cell (p := ⟨tb, 0, none⟩) hlt).trans c0
    have q1 := (hSw.cell (p := ⟨tb, 1, none⟩) hlt).trans c1
    have q2 := (hSw.cell (p := ⟨tb, 2, none⟩) hlt).trans c2
    have q3 := (hSw.cell (p := ⟨tb, 3, none⟩) hlt).trans c3
    have q4 := (hSw.cell (p := ⟨tb, 4, none⟩) hlt).trans c4
    go_simp
    all_goals (with_reducible rfl)
  try simp only [Act.put, sA, s0, s1]
  refine tk (i := 17) (oi := ⟨some 22, .fieldAddr 94 (.tmp 1) 0, 0, "views.go:63", #[⟨16, .guard⟩], some (16, false)⟩) (v := ?_) rfl (Or.inl ⟨by rfl, ?_⟩) hHeld ?_
  rotate_left
  · intro wz hSw
    have q0 := (hSw.cell (p := ⟨tb, 0, none⟩) hlt).trans c0
    have q1 := (hSw.cell (p := ⟨tb, 1, none⟩) hlt).trans c1
    have q2 := (hSw.cell (p := ⟨tb, 2, none⟩) hlt).trans c2
    have q3 := (hSw.cell (p := ⟨tb, 3, none⟩) hlt).trans c3
    have q4 := (hSw.cell (p := ⟨tb, 4, none⟩) hlt).trans c4
    go_simp
    all_goals (with_reducible rfl)
  try simp only [Act.put, sA, s0, s1]
  refine tk (i := 18) (oi := ⟨some 23, .fieldAddr 45 (.tmp 22) 1, 0, "views.go:63", #[⟨17, .data⟩, ⟨16, .guard⟩], some (16, false)⟩) (v := ?_) rfl (Or.inl ⟨by rfl, ?_⟩) hHeld ?_
  rotate_left
  · intro wz hSw
    have q0 := (hSw.cell (p := ⟨tb, 0, none⟩) hlt).trans c0
    have q1 := (hSw.cell (p := ⟨tb, 1, none⟩) hlt).trans c1
    have q2 := (hSw.cell (p := ⟨tb, 2, none⟩) hlt).trans c2
    have q3 := (hSw.cell (p := ⟨tb, 3, none⟩) hlt).trans c3
    have q4 := (hSw.cell (p := ⟨tb, 4, none⟩) hlt).trans c4
    go_simp
    all_goals (with_reducible rfl)
  try simp only [Act.put, sA, s0, s1]
  refine tk (i := 19) (oi := ⟨some 24, .load 3 (.tmp 23), 3, "views.go:63", #[⟨18, .data⟩, ⟨16, .guard⟩], some (16, false)⟩) (v := ?_) rfl (Or.inl ⟨by rfl, ?_⟩) hHeld ?_
  rotate_left
  · intro wz hSw
    have q0 := (hSw.cell (p := ⟨tb, 0, none⟩) hlt).trans c0
    have q1 := (hSw.cell (p := ⟨tb, 1, none⟩) hlt).trans c1
    have q2 := (hSw.cell (p := ⟨tb, 2, none⟩) hlt).trans c2
    have q3 := (hSw.cell (p := ⟨tb, 3, none⟩) hlt).trans c3
    have q4 := (hSw.cell (p := ⟨tb, 4, none⟩) hlt).trans c4
    go_simp
    all_goals (with_reducible rfl)
  try simp only [Act.put, sA, s0, s1]
  refine tk (i := 20) (oi := ⟨some 25, .binOp .geq 3 (.tmp 24) (.const (.int .i64 16)) 3, 4, "views.go:63", #[⟨19, .data⟩, ⟨16, .guard⟩], some (16, false)⟩) (v := ?_) rfl (Or.inl ⟨by rfl, ?_⟩) hHeld ?_
  rotate_left
  · intro wz hSw
    have q0 := (hSw.cell (p := ⟨tb, 0, none⟩) hlt).trans c0
    have q1 := (hSw.cell (p := ⟨tb, 1, none⟩) hlt).trans c1
    have q2 := (hSw.cell (p := ⟨tb, 2, none⟩) hlt).trans c2
    have q3 := (hSw.cell (p := ⟨tb, 3, none⟩) hlt).trans c3
    have q4 := (hSw.cell (p := ⟨tb, 4, none⟩) hlt).trans c4
    go_simp
    all_goals (with_reducible rfl)
  try simp only [Act.put, sA, s0, s1]
  refine tk (i := 21) (oi := ⟨some 26, .pick (.tmp 21) (.const (.bool true)) (.tmp 25), 4, "views.go:63", #[⟨16, .data⟩, ⟨20, .data⟩], none⟩) (v := ?_) rfl (Or.inl ⟨by rfl, ?_⟩) hHeld ?_
  rotate_left
  · intro wz hSw
    have q0 := (hSw.cell (p := ⟨tb, 0, none⟩) hlt).trans c0
    have q1 := (hSw.cell (p := ⟨tb, 1, none⟩) hlt).trans c1
    have q2 := (hSw.cell (p := ⟨tb, 2, none⟩) hlt).trans c2
    have q3 := (hSw.cell (p := ⟨tb, 3, none⟩) hlt).trans c3
    have q4 := (hSw.cell (p := ⟨tb, 4, none⟩) hlt).trans c4
    go_simp
    all_goals (with_reducible rfl)
  try simp only [Act.put, sA, s0, s1]
  refine tk (i := 22) (oi := ⟨some 27, .move (.tmp 26), 4, "views.go:63", #[⟨21, .data⟩, ⟨16, .chain⟩], none⟩) (v := ?_) rfl (Or.inl ⟨by rfl, ?_⟩) hHeld ?_
  rotate_left
  · intro wz hSw
    have q0 := (hSw.cell (p := ⟨tb, 0, none⟩) hlt).trans c0
    have q1 := (hSw.cell (p := ⟨tb, 1, none⟩) hlt).trans c1
    have q2 := (hSw.cell (p := ⟨tb, 2, none⟩) hlt).trans c2
    have q3 := (hSw.cell (p := ⟨tb, 3, none⟩) hlt).trans c3
    have q4 := (hSw.cell (p := ⟨tb, 4, none⟩) hlt).trans c4
    go_simp
    all_goals (with_reducible rfl)
  try simp only [Act.put, sA, s0, s1]
  refine tk (i := 23) (oi := ⟨some 28, .load 94 (.tmp 1), 94, "views.go:63", #[⟨22, .guard⟩], some (22, false)⟩) (v := ?_) rfl (Or.inl ⟨by rfl, ?_⟩) hHeld ?_
  rotate_left
  · intro wz hSw
    have q0 := (hSw.cell (p := ⟨tb, 0, none⟩) hlt).trans c0
    have q1 := (hSw.cell (p := ⟨tb, 1, none⟩) hlt).trans c1
    have q2 := (hSw.cell (p := ⟨tb, 2, none⟩) hlt).trans c2
    have q3 := (hSw.cell (p := ⟨tb, 3, none⟩) hlt).trans c3
    have q4 := (hSw.cell (p := ⟨tb, 4, none⟩) hlt).trans c4
    go_simp
    all_goals (with_reducible rfl)
  try simp only [Act.put, sA, s0, s1]
  refine tk (i := 26) (oi := ⟨some 31, .fieldAddr 94 (.tmp 1) 0, 0, "views.go:63", #[⟨22, .guard⟩], some (22, false)⟩) (v := ?_) rfl (Or.inl ⟨by rfl, ?_⟩) hHeld ?_
  rotate_left
  · intro wz hSw
    have q0 := (hSw.cell (p := ⟨tb, 0, none⟩) hlt).trans c0
    have q1 := (hSw.cell (p := ⟨tb, 1, none⟩) hlt).trans c1
    have q2 := (hSw.cell (p := ⟨tb, 2, none⟩) hlt).trans c2
    have q3 := (hSw.cell (p := ⟨tb, 3, none⟩) hlt).trans c3
    have q4 := (hSw.cell (p := ⟨tb, 4, none⟩) hlt).trans c4
    go_simp
    all_goals (with_reducible rfl)
  try simp only [Act.put, sA, s0, s1]
  refine tk (i := 27) (oi := ⟨some 32, .fieldAddr 45 (.tmp 31) 3, 0, "views.go:63", #[⟨26, .data⟩, ⟨22, .guard⟩], some (22, false)⟩) (v := ?_) rfl (Or.inl ⟨by rfl, ?_⟩) hHeld ?_
  rotate_left
  · intro wz hSw
    have q0 := (hSw.cell (p := ⟨tb, 0, none⟩) hlt).trans c0
    have q1 := (hSw.cell (p := ⟨tb, 1, none⟩) hlt).trans c1
    have q2 := (hSw.cell (p := ⟨tb, 2, none⟩) hlt).trans c2
    have q3 := (hSw.cell (p := ⟨tb, 3, none⟩) hlt).trans c3
    have q4 := (hSw.cell (p := ⟨tb, 4, none⟩) hlt).trans c4
    go_simp
    all_goals (with_reducible rfl)
  try simp only [Act.put, sA, s0, s1]
  refine tk (i := 28) (oi := ⟨some 33, .load 42 (.tmp 32), 42, "views.go:63", #[⟨27, .data⟩, ⟨22, .guard⟩], some (22, false)⟩) (v := ?_) rfl (Or.inl ⟨by rfl, ?_⟩) hHeld ?_
  rotate_left
  · intro wz hSw
    have q0 := (hSw.cell (p := ⟨tb, 0, none⟩) hlt).trans c0
    have q1 := (hSw.cell (p := ⟨tb, 1, none⟩) hlt).trans c1
    have q2 := (hSw.cell (p := ⟨tb, 2, none⟩) hlt).trans c2
    have q3 := (hSw.cell (p := ⟨tb, 3, none⟩) hlt).trans c3
    have q4 := (hSw.cell (p := ⟨tb, 4, none⟩) hlt).trans c4
    go_simp
    all_goals (with_reducible rfl)
  try simp only [Act.put, sA, s0, s1]
  refine tk (i := 29) (oi := ⟨some 34, .call { callee := .builtin .len, args := #[.tmp 33], argTypes := #[42] }, 3, "views.go:63", #[⟨28, .data⟩, ⟨22, .guard⟩], some (22, false)⟩) (v := ?_) rfl (Or.inl ⟨by rfl, ?_⟩) hHeld ?_
  rotate_left
  · intro wz hSw
    have q0 := (hSw.cell (p := ⟨tb, 0, none⟩) hlt).trans c0
    have q1 := (hSw.cell (p := ⟨tb, 1, none⟩) hlt).trans c1
    have q2 := (hSw.cell (p := ⟨tb, 2, none⟩) hlt).trans c2
    have q3 := (hSw.cell (p := ⟨tb, 3, none⟩) hlt).trans c3
    have q4 := (hSw.cell (p := ⟨tb, 4, none⟩) hlt).trans c4
    go_simp
    all_goals (with_reducible rfl)
  try simp only [Act.put, sA, s0, s1]
  refine rd (rs := [24]) ?_
  refine rc (o := ⟨some 29, .call { callee := .value (.func 82), args := #[.tmp 28], argTypes := #[94] }, 36, "views.go:63", #[⟨23, .data⟩, ⟨22, .chain⟩, ⟨22, .guard⟩], some (22, false)⟩) rfl (fun K hK => ?_) rn
  go_simp
  go_at_call 82
  refine (hlast.out _ (H'.out.below (hb1.out.trans (hHeld.mono hb1.out.size)))).mono ?_
  rintro e w2 ⟨rfl, hb2⟩
  refine hK.out _ _ (hHeld.trans (hb2.mono hHeld.size)) (fun hHeld => ?_)
  clear hK K
  try simp only [Act.put, sA, s0, s1]
  refine tkq (i := 25) (oi := ⟨some 30, .field 36 (.tmp 29) 2, 3, "views.go:63", #[⟨24, .data⟩, ⟨22, .guard⟩], some (22, false)⟩) rfl hHeld ?_
  refine tkq (i := 30) (oi := ⟨some 35, .binOp .neq 3 (.tmp 30) (.tmp 34) 3, 4, "views.go:63", #[⟨25, .data⟩, ⟨29, .data⟩, ⟨22, .guard⟩], some (22, false)⟩) rfl hHeld ?_
  refine tkq (i := 31) (oi := ⟨some 36, .pick (.tmp 27) (.const (.bool true)) (.tmp 35), 4, "views.go:63", #[⟨22, .data⟩, ⟨30, .data⟩], none⟩) rfl hHeld ?_
  refine wpAnyH_done (by kernel_rfl) ?_ _
  have hb3 := Lib.hid (hb1.out.trans (hHeld.mono hb1.out.size))
  have hW2 := Lib.hid hHeld
  have e4 := (hHeld.cell (p := ⟨tb, 4, none⟩) hlt).trans c4
  have hv0 : Hid (B0 = (!gN && headsOk v none v.hs)) := by
   have h1 := hv'.out
   rw [hdn] at h1
   have h2 : decide (L.no = (dn : Int)) = !gN := by rw [← hgN.out]; simp only [bne, Bool.not_not]; rfl
   show _ = _
   rw [h1, h2]
  clear hL2 hlast hg5 hgN hv' hLn hL hB0 g0 g1 g2 g3
  clear hHeld
  cases gN with
  | true =>
   have hB : B0 = false := by rw [hv0.out]; rfl
   subst hB
   have hfin := Lib.hid (hret.out _ hb3.out)
   clear hv0
   go_wp2_with fail
   exact hfin.out
  | false =>
   have hv1 : Hid (B0 = headsOk v (prevN v.hs 0) (v.hs.drop 0)) := hv0.out
   clear hv0
   go_wp2_with fail
   clear e4
   go_loopw [41] (fun i wr => ∃ k : Nat, k ≤ hn ∧ i = .int .i64 k ∧ Hid (B0 = headsOk v (prevN v.hs k) (v.hs.drop k)) ∧ Hid (Below W1.heap.size W1 wr)) (fun i _ => hn - (intOf i).toNat)
   case atStart => exact ⟨0, Nat.zero_le _, rfl, hv1, hW2⟩
   case round =>
    clear hv1
    obtain ⟨k, hk, rfl, hv1, hW⟩ := hrel
    by_cases hklt : k < hn
    case neg =>
     obtain rfl : k = hn := by omega
     have hB : B0 = true := by rw [hv1.out, headsOk_end (by omega)]
     subst hB
     have hfin := Lib.hid (hret.out _ (hb1.out.trans (hW.out.mono hb1.out.size)))
     clear hv1
     go_wp2_with fail
     exact hfin.out
    case pos =>
    obtain ⟨h, he⟩ : ∃ h, v.hs[k]? = some h := ⟨_, List.getElem?_eq_getElem (by omega)⟩
    have hH := H'.out.hs.below (hb1.out.trans (hW.out.mono hb1.out.size))
    obtain ⟨b, off, rfl, hbl, ok, hrg⟩ := hH.get he
    rw [headsOk_drop he] at hv1
    obtain ⟨W2, hP⟩ := put_row (ty := 36) (Blk.new wr 36 zrH) (x := hdC h) (by rw [hdC_len ok]; rfl) (by rw [hdC_len ok]; exact sizeH) (hdC_r ok).one
    obtain ⟨tq, htq⟩ : ∃ tq, tq = wr.heap.size := ⟨_, rfl⟩
    have hgw : wr.grownBy W2 none := ⟨hP.grown.os, hP.grown.tape, hP.grown.output, Nat.le_trans (by simp) hP.grown.size, fun q hq _ => (hP.grown.block q (by simp; omega) (fun e => by cases e; omega)).trans (Below.heap_alloc wr _ q hq)⟩
    have hbw2 : Below wr.heap.size wr W2 := (Below.refl _ wr).grown hgw (Nat.le_refl _) (fun _ e => by cases e)
    have hWb : Hid (Below W1.heap.size W1 W2) := hW.out.trans (hbw2.mono hW.out.size)
    have hBq : Hid (Blk W2 tq 36 (hdC h)) := by rw [htq]; exact hP.blk
    have hrg' := Lib.hid hrg
    have hri := infoHd ok
    have hP' := Lib.hid hP
    have hbv2 := Lib.hid (hbv.out.below hWb.out hlt)
    have k0 : (0 : Int) ≤ (k : Int) := by omega
    have k1 : (k : Int) < (hn : Int) := by omega
    have hown := Lib.hid (fun W (hT : Tabs W) => owns_any v da dn dc (some ⟨b, off, none⟩) hn hc h ok W hT H'.out.pub)
    have hfit := Lib.hid (fun W (hT : Tabs W) (hS : DS W da dn dc v.ds) => fits_any h ok da dn dc v.ds W hT hS hbd)
    have hok : Hid (headOk v (prevN v.hs k) h = (ownsB v h && (match prevN v.hs k with | none => true | some p => decide (p < h.no)) && fitsB h v.ds)) := rfl
    have hpr : ∀ j, k = j + 1 → ∃ h0, v.hs[j]? = some h0 ∧ W2.cell? ⟨b, off + j * 37 + 2, none⟩ = some (.int .i64 h0.no) := fun j hj => by
     obtain ⟨h0, he0⟩ : ∃ h0, v.hs[j]? = some h0 := ⟨_, List.getElem?_eq_getElem (by omega)⟩
     obtain ⟨b', off', e, _, _, hr0⟩ := hH.get he0
     cases e
     exact ⟨h0, he0, (hbw2.cell (p := ⟨b, _, none⟩) hbl).trans (hr0 2 _ (hdC_2 h0))⟩
    have hpr' := Lib.hid hpr
    have hbl2 : b < W2.heap.size := Nat.lt_of_lt_of_le hbl hbw2.size
    clear hP hrg hH hgw ok hpr hbl hbw2
    go_upto_region 6 with (first
     | (refine wpList_load_g (by rfl) 36 _ (by rfl) b (off + k * 37) (by rfl) (hdC h) _ hrg'.out Tryz.underlying36 (by rfl) hri.out ?_)
     | (refine wpList_store_mid (by rfl) 36 _ _ (by rfl) wr.heap.size 0 (hdC h).toArray (by rfl) (by rfl) hP'.out.there hP'.out.info (by simpa using hP'.out.one) ?_
        generalize hWq : World.setCells _ _ _ _ = Wa
        obtain rfl : W2 = Wa := by rw [← hWq]; exact hP'.out.eq
        clear hWq))
    rw [← htq]
    try simp only [Act.put]
    clear hP' hrg' htq
    have x0 := hbv2.out.at_ (i := 0) rfl
    have x1 := hbv2.out.at_ (i := 1) rfl
    have x2 := hbv2.out.at_ (i := 2) rfl
    have x3 := hbv2.out.at_ (i := 3) rfl
    have x4 := hbv2.out.at_ (i := 4) rfl
    have xn := hBq.out.at_ (hdC_2 h)
    have xlt := hbv2.out.lt
    have qlt := hBq.out.lt
    have hBa := Lib.hid (hb1.out.trans (hWb.out.mono hb1.out.size))
    obtain ⟨ob, hob⟩ : ∃ ob, Hid (ownsB v h = ob) := ⟨_, rfl⟩
    obtain ⟨fb, hfb⟩ : ∃ fb, Hid (fitsB h v.ds = fb) := ⟨_, rfl⟩
    rw [hob.out] at hown hok
    rw [hfb.out] at hfit hok
    have hnx : prevN v.hs (k + 1) = some h.no := by unfold prevN; rw [if_neg (by omega), Nat.add_sub_cancel, he]; rfl
    have hv2 : Hid (B0 = (headOk v (prevN v.hs k) h && headsOk v (prevN v.hs (k + 1)) (v.hs.drop (k + 1)))) := by rw [hnx]; exact hv1.out
    clear hv1 hob hfb hnx hbv hbv2 c0 c1 c2 c3 c4
    cases ob with
    | false =>
     have hB : B0 = false := by rw [hv2.out, hok.out]; rfl
     subst hB
     clear hv2 hok hpr' hfit
     refine wp_region_held_drew (S := fun wz => Below W2.heap.size W2 wz) (by kernel_rfl) ((Below.refl _ W2).drew) (fun hHeld => ?_)
     refine tk (i := 0) (oi := ⟨some 46, .load 94 (.tmp 1), 94, "views.go:67", #[], none⟩) (v := ?_) rfl (Or.inl ⟨by rfl, ?_⟩) hHeld ?_
     rotate_left
     · intro wz hSw
       have q0 := (hSw.cell (p := ⟨tb, 0, none⟩) xlt).trans x0
       have q1 := (hSw.cell (p := ⟨tb, 1, none⟩) xlt).trans x1
       have q2 := (hSw.cell (p := ⟨tb, 2, none⟩) xlt).trans x2
       have q3 := (hSw.cell (p := ⟨tb, 3, none⟩) xlt).trans x3
       have q4 := (hSw.cell (p := ⟨tb, 4, none⟩) xlt).trans x4
       go_simp
       all_goals (with_reducible rfl)
     try simp only [Act.put, sA, s0, s1]
     refine tk (i := 1) (oi := ⟨some 47, .load 36 (.tmp 4), 36, "views.go:67", #[], none⟩) rfl (yieldsIf_load_mid (by rfl) _ _ rfl tq 0 rfl (hdC h) _ (fun wz h => (hBq.out.below h qlt).range) Tryz.underlying36 rfl (hri.out)) hHeld ?_
     refine rd (rs := [2]) ?_
     refine rc (o := ⟨some 48, .call { callee := .value (.func 43), args := #[.tmp 46, .tmp 47], argTypes := #[94, 36] }, 4, "views.go:67", #[⟨0, .data⟩, ⟨1, .data⟩], none⟩) rfl (fun K hK => ?_) rn
     go_simp
     go_at_call 43
     refine (hown.out _ (HT'.out.below (hBa.out.trans (hHeld.mono hBa.out.size)))).mono ?_
     rintro e w3 ⟨rfl, hb3⟩
     refine hK.out _ _ (hHeld.trans (hb3.mono hHeld.size)) (fun hHeld => ?_)
     clear hK K
     try simp only [Act.put, sA, s0, s1]
     refine tkq (i := 3) (oi := ⟨some 49, .unOp .not 4 (.tmp 48), 4, "views.go:67", #[⟨2, .data⟩], none⟩) rfl hHeld ?_
     refine tkq (i := 4) (oi := ⟨some 50, .move (.tmp 49), 4, "views.go:67", #[⟨3, .data⟩, ⟨2, .chain⟩], none⟩) rfl hHeld ?_
     refine tk (i := 5) (oi := ⟨some 51, .move (.tmp 3), 3, "views.go:67", #[⟨4, .guard⟩], some (4, false)⟩) (v := undef) rfl (Or.inr ⟨by rfl, rfl⟩) hHeld ?_
     refine tk (i := 6) (oi := ⟨some 52, .binOp .gtr 3 (.tmp 51) (.const (.int .i64 0)) 3, 4, "views.go:67", #[⟨5, .data⟩, ⟨4, .guard⟩], some (4, false)⟩) (v := undef) rfl (Or.inr ⟨by rfl, rfl⟩) hHeld ?_
     refine tk (i := 7) (oi := ⟨some 53, .move (.tmp 52), 4, "views.go:67", #[⟨6, .data⟩, ⟨4, .chain⟩, ⟨4, .guard⟩], some (4, false)⟩) (v := undef) rfl (Or.inr ⟨by rfl, rfl⟩) hHeld ?_
     refine tk (i := 8) (oi := ⟨some 54, .fieldAddr 36 (.tmp 4) 2, 0, "views.go:67", #[⟨7, .guard⟩], some (7, true)⟩) (v := undef) rfl (Or.inr ⟨by rfl, rfl⟩) hHeld ?_
     refine tk (i := 9) (oi := ⟨some 55, .load 3 (.tmp 54), 3, "views.go:67", #[⟨8, .data⟩, ⟨7, .guard⟩], some (7, true)⟩) (v := undef) rfl (Or.inr ⟨by rfl, rfl⟩) hHeld ?_
     refine tk (i := 10) (oi := ⟨some 56, .fieldAddr 94 (.tmp 1) 0, 0, "views.go:67", #[⟨7, .guard⟩], some (7, true)⟩) (v := undef) rfl (Or.inr ⟨by rfl, rfl⟩) hHeld ?_
     refine tk (i := 11) (oi := ⟨some 57, .fieldAddr 45 (.tmp 56) 4, 0, "views.go:67", #[⟨10, .data⟩, ⟨7, .guard⟩], some (7, true)⟩) (v := undef) rfl (Or.inr ⟨by rfl, rfl⟩) hHeld ?_
     refine tk (i := 12) (oi := ⟨some 58, .load 43 (.tmp 57), 43, "views.go:67", #[⟨11, .data⟩, ⟨7, .guard⟩], some (7, true)⟩) (v := undef) rfl (Or.inr ⟨by rfl, rfl⟩) hHeld ?_
     refine tk (i := 13) (oi := ⟨some 59, .move (.tmp 3), 3, "views.go:67", #[⟨7, .guard⟩], some (7, true)⟩) (v := undef) rfl (Or.inr ⟨by rfl, rfl⟩) hHeld ?_
     refine tk (i := 14) (oi := ⟨some 60, .binOp .sub 3 (.tmp 59) (.const (.int .i64 1)) 3, 3, "views.go:67", #[⟨13, .data⟩, ⟨7, .guard⟩], some (7, true)⟩) (v := undef) rfl (Or.inr ⟨by rfl, rfl⟩) hHeld ?_
     refine tk (i := 15) (oi := ⟨some 61, .indexAddr 43 (.tmp 58) (.tmp 60), 0, "views.go:67", #[⟨12, .data⟩, ⟨14, .data⟩, ⟨7, .guard⟩], some (7, true)⟩) (v := undef) rfl (Or.inr ⟨by rfl, rfl⟩) hHeld ?_
     refine tk (i := 16) (oi := ⟨some 62, .fieldAddr 36 (.tmp 61) 2, 0, "views.go:67", #[⟨15, .data⟩, ⟨7, .guard⟩], some (7, true)⟩) (v := undef) rfl (Or.inr ⟨by rfl, rfl⟩) hHeld ?_
     refine tk (i := 17) (oi := ⟨some 63, .load 3 (.tmp 62), 3, "views.go:67", #[⟨16, .data⟩, ⟨7, .guard⟩], some (7, true)⟩) (v := undef) rfl (Or.inr ⟨by rfl, rfl⟩) hHeld ?_
     refine tk (i := 18) (oi := ⟨some 64, .binOp .leq 3 (.tmp 55) (.tmp 63) 3, 4, "views.go:67", #[⟨9, .data⟩, ⟨17, .data⟩, ⟨7, .guard⟩], some (7, true)⟩) (v := undef) rfl (Or.inr ⟨by rfl, rfl⟩) hHeld ?_
     refine tk (i := 19) (oi := ⟨some 65, .pick (.tmp 53) (.tmp 64) (.const (.bool false)), 4, "views.go:67", #[⟨7, .data⟩, ⟨18, .data⟩, ⟨4, .guard⟩], some (4, false)⟩) (v := undef) rfl (Or.inr ⟨by rfl, rfl⟩) hHeld ?_
     refine tkq (i := 20) (oi := ⟨some 66, .pick (.tmp 50) (.const (.bool true)) (.tmp 65), 4, "views.go:67", #[⟨4, .data⟩, ⟨19, .data⟩], none⟩) rfl hHeld ?_
     refine tkq (i := 21) (oi := ⟨some 67, .move (.tmp 66), 4, "views.go:67", #[⟨20, .data⟩, ⟨7, .chain⟩], none⟩) rfl hHeld ?_
     refine tk (i := 22) (oi := ⟨some 68, .load 36 (.tmp 4), 36, "views.go:67", #[⟨21, .guard⟩], some (21, false)⟩) (v := undef) rfl (Or.inr ⟨by rfl, rfl⟩) hHeld ?_
     refine tk (i := 23) (oi := ⟨some 69, .fieldAddr 94 (.tmp 1) 0, 0, "views.go:67", #[⟨21, .guard⟩], some (21, false)⟩) (v := undef) rfl (Or.inr ⟨by rfl, rfl⟩) hHeld ?_
     refine tk (i := 24) (oi := ⟨some 70, .fieldAddr 45 (.tmp 69) 3, 0, "views.go:67", #[⟨23, .data⟩, ⟨21, .guard⟩], some (21, false)⟩) (v := undef) rfl (Or.inr ⟨by rfl, rfl⟩) hHeld ?_
     refine tk (i := 25) (oi := ⟨some 71, .load 42 (.tmp 70), 42, "views.go:67", #[⟨24, .data⟩, ⟨21, .guard⟩], some (21, false)⟩) (v := undef) rfl (Or.inr ⟨by rfl, rfl⟩) hHeld ?_
     refine rd (rs := [26]) ?_
     refine AllReadyH.cons (o := ⟨some 72, .call { callee := .value (.func 45), args := #[.tmp 68, .tmp 71], argTypes := #[36, 42] }, 4, "views.go:67", #[⟨22, .data⟩, ⟨25, .data⟩, ⟨21, .chain⟩, ⟨21, .guard⟩], some (21, false)⟩) rfl (fun K hK => ?_) AllReadyH.nil
     rw [if_neg (Bool.eq_false_iff.1 (by rfl))]
     refine hK.out _ _ hHeld (fun hHeld => ?_)
     clear hK K
     try simp only [Act.put, sA, s0, s1]
     refine tk (i := 27) (oi := ⟨some 73, .unOp .not 4 (.tmp 72), 4, "views.go:67", #[⟨26, .data⟩, ⟨21, .guard⟩], some (21, false)⟩) (v := undef) rfl (Or.inr ⟨by rfl, rfl⟩) hHeld ?_
     refine tkq (i := 28) (oi := ⟨some 74, .pick (.tmp 67) (.const (.bool true)) (.tmp 73), 4, "views.go:67", #[⟨21, .data⟩, ⟨27, .data⟩], none⟩) rfl hHeld ?_
     refine wpAnyH_done (by kernel_rfl) ?_ _
     have hfin := Lib.hid (hret.out _ (hBa.out.trans (hHeld.mono hBa.out.size)))
     go_wp2_with fail
     exact hfin.out
    | true =>
     rcases Nat.eq_zero_or_pos k with hk0 | hk0
     · subst hk0
       have hB : Hid (B0 = (fb && headsOk v (prevN v.hs 1) (v.hs.drop 1))) := by show _ = _; rw [hv2.out, hok.out]; rfl
       clear hv2 hok hpr'
       refine wp_region_held_drew (S := fun wz => Below W2.heap.size W2 wz) (by kernel_rfl) ((Below.refl _ W2).drew) (fun hHeld => ?_)
       refine tk (i := 0) (oi := ⟨some 46, .load 94 (.tmp 1), 94, "views.go:67", #[], none⟩) (v := ?_) rfl (Or.inl ⟨by rfl, ?_⟩) hHeld ?_
       rotate_left
       · intro wz hSw
         have q0 := (hSw.cell (p := ⟨tb, 0, none⟩) xlt).trans x0
         have q1 := (hSw.cell (p := ⟨tb, 1, none⟩) xlt).trans x1
         have q2 := (hSw.cell (p := ⟨tb, 2, none⟩) xlt).trans x2
         have q3 := (hSw.cell (p := ⟨tb, 3, none⟩) xlt).trans x3
         have q4 := (hSw.cell (p := ⟨tb, 4, none⟩) xlt).trans x4
         go_simp
         all_goals (with_reducible rfl)
       try simp only [Act.put, sA, s0, s1]
       refine tk (i := 1) (oi := ⟨some 47, .load 36 (.tmp 4), 36, "views.go:67", #[], none⟩) rfl (yieldsIf_load_mid (by rfl) _ _ rfl tq 0 rfl (hdC h) _ (fun wz h => (hBq.out.below h qlt).range) Tryz.underlying36 rfl (hri.out)) hHeld ?_
       refine rd (rs := [2]) ?_
       refine rc (o := ⟨some 48, .call { callee := .value (.func 43), args := #[.tmp 46, .tmp 47], argTypes := #[94, 36] }, 4, "views.go:67", #[⟨0, .data⟩, ⟨1, .data⟩], none⟩) rfl (fun K hK => ?_) rn
       go_simp
       go_at_call 43
       refine (hown.out _ (HT'.out.below (hBa.out.trans (hHeld.mono hBa.out.size)))).mono ?_
       rintro e w3 ⟨rfl, hb3⟩
       refine hK.out _ _ (hHeld.trans (hb3.mono hHeld.size)) (fun hHeld => ?_)
       clear hK K
       try simp only [Act.put, sA, s0, s1]
       refine tkq (i := 3) (oi := ⟨some 49, .unOp .not 4 (.tmp 48), 4, "views.go:67", #[⟨2, .data⟩], none⟩) rfl hHeld ?_
       refine tkq (i := 4) (oi := ⟨some 50, .move (.tmp 49), 4, "views.go:67", #[⟨3, .data⟩, ⟨2, .chain⟩], none⟩) rfl hHeld ?_
       refine tkq (i := 5) (oi := ⟨some 51, .move (.tmp 3), 3, "views.go:67", #[⟨4, .guard⟩], some (4, false)⟩) rfl hHeld ?_
       refine tkq (i := 6) (oi := ⟨some 52, .binOp .gtr 3 (.tmp 51) (.const (.int .i64 0)) 3, 4, "views.go:67", #[⟨5, .data⟩, ⟨4, .guard⟩], some (4, false)⟩) rfl hHeld ?_
       refine tkq (i := 7) (oi := ⟨some 53, .move (.tmp 52), 4, "views.go:67", #[⟨6, .data⟩, ⟨4, .chain⟩, ⟨4, .guard⟩], some (4, false)⟩) rfl hHeld ?_
       refine tk (i := 8) (oi := ⟨some 54, .fieldAddr 36 (.tmp 4) 2, 0, "views.go:67", #[⟨7, .guard⟩], some (7, true)⟩) (v := undef) rfl (Or.inr ⟨by rfl, rfl⟩) hHeld ?_
       refine tk (i := 9) (oi := ⟨some 55, .load 3 (.tmp 54), 3, "views.go:67", #[⟨8, .data⟩, ⟨7, .guard⟩], some (7, true)⟩) (v := undef) rfl (Or.inr ⟨by rfl, rfl⟩) hHeld ?_
       refine tk (i := 10) (oi := ⟨some 56, .fieldAddr 94 (.tmp 1) 0, 0, "views.go:67", #[⟨7, .guard⟩], some (7, true)⟩) (v := undef) rfl (Or.inr ⟨by rfl, rfl⟩) hHeld ?_
       refine tk (i := 11) (oi := ⟨some 57, .fieldAddr 45 (.tmp 56) 4, 0, "views.go:67", #[⟨10, .data⟩, ⟨7, .guard⟩], some (7, true)⟩) (v := undef) rfl (Or.inr ⟨by rfl, rfl⟩) hHeld ?_
       refine tk (i := 12) (oi := ⟨some 58, .load 43 (.tmp 57), 43, "views.go:67", #[⟨11, .data⟩, ⟨7, .guard⟩], some (7, true)⟩) (v := undef) rfl (Or.inr ⟨by rfl, rfl⟩) hHeld ?_
       refine tk (i := 13) (oi := ⟨some 59, .move (.tmp 3), 3, "views.go:67", #[⟨7, .guard⟩], some (7, true)⟩) (v := undef) rfl (Or.inr ⟨by rfl, rfl⟩) hHeld ?_
       refine tk (i := 14) (oi := ⟨some 60, .binOp .sub 3 (.tmp 59) (.const (.int .i64 1)) 3, 3, "views.go:67", #[⟨13, .data⟩, ⟨7, .guard⟩], some (7, true)⟩) (v := undef) rfl (Or.inr ⟨by rfl, rfl⟩) hHeld ?_
       refine tk (i := 15) (oi := ⟨some 61, .indexAddr 43 (.tmp 58) (.tmp 60), 0, "views.go:67", #[⟨12, .data⟩, ⟨14, .data⟩, ⟨7, .guard⟩], some (7, true)⟩) (v := undef) rfl (Or.inr ⟨by rfl, rfl⟩) hHeld ?_
       refine tk (i := 16) (oi := ⟨some 62, .fieldAddr 36 (.tmp 61) 2, 0, "views.go:67", #[⟨15, .data⟩, ⟨7, .guard⟩], some (7, true)⟩) (v := undef) rfl (Or.inr ⟨by rfl, rfl⟩) hHeld ?_
       refine tk (i := 17) (oi := ⟨some 63, .load 3 (.tmp 62), 3, "views.go:67", #[⟨16, .data⟩, ⟨7, .guard⟩], some (7, true)⟩) (v := undef) rfl (Or.inr ⟨by rfl, rfl⟩) hHeld ?_
       refine tk (i := 18) (oi := ⟨some 64, .binOp .leq 3 (.tmp 55) (.tmp 63) 3, 4, "views.go:67", #[⟨9, .data⟩, ⟨17, .data⟩, ⟨7, .guard⟩], some (7, true)⟩) (v := undef) rfl (Or.inr ⟨by rfl, rfl⟩) hHeld ?_
       refine tkq (i := 19) (oi := ⟨some 65, .pick (.tmp 53) (.tmp 64) (.const (.bool false)), 4, "views.go:67", #[⟨7, .data⟩, ⟨18, .data⟩, ⟨4, .guard⟩], some (4, false)⟩) rfl hHeld ?_
       refine tkq (i := 20) (oi := ⟨some 66, .pick (.tmp 50) (.const (.bool true)) (.tmp 65), 4, "views.go:67", #[⟨4, .data⟩, ⟨19, .data⟩], none⟩) rfl hHeld ?_
       refine tkq (i := 21) (oi := ⟨some 67, .move (.tmp 66), 4, "views.go:67", #[⟨20, .data⟩, ⟨7, .chain⟩], none⟩) rfl hHeld ?_
       refine tk (i := 22) (oi := ⟨some 68, .load 36 (.tmp 4), 36, "views.go:67", #[⟨21, .guard⟩], some (21, false)⟩) rfl (yieldsIf_load_mid (by rfl) _ _ rfl tq 0 rfl (hdC h) _ (fun wz h => (hBq.out.below h qlt).range) Tryz.underlying36 rfl (hri.out)) hHeld ?_
       refine tkq (i := 23) (oi := ⟨some 69, .fieldAddr 94 (.tmp 1) 0, 0, "views.go:67", #[⟨21, .guard⟩], some (21, false)⟩) rfl hHeld ?_
       refine tkq (i := 24) (oi := ⟨some 70, .fieldAddr 45 (.tmp 69) 3, 0, "views.go:67", #[⟨23, .data⟩, ⟨21, .guard⟩], some (21, false)⟩) rfl hHeld ?_
       refine tk (i := 25) (oi := ⟨some 71, .load 42 (.tmp 70), 42, "views.go:67", #[⟨24, .data⟩, ⟨21, .guard⟩], some (21, false)⟩) (v := ?_) rfl (Or.inl ⟨by rfl, ?_⟩) hHeld ?_
       rotate_left
       · intro wz hSw
         have q0 := (hSw.cell (p := ⟨tb, 0, none⟩) xlt).trans x0
         have q1 := (hSw.cell (p := ⟨tb, 1, none⟩) xlt).trans x1
         have q2 := (hSw.cell (p := ⟨tb, 2, none⟩) xlt).trans x2
         have q3 := (hSw.cell (p := ⟨tb, 3, none⟩) xlt).trans x3
         have q4 := (hSw.cell (p := ⟨tb, 4, none⟩) xlt).trans x4
         go_simp
         all_goals (with_reducible rfl)
       try simp only [Act.put, sA, s0, s1]
       refine rd (rs := [26]) ?_
       refine rc (o := ⟨some 72, .call { callee := .value (.func 45), args := #[.tmp 68, .tmp 71], argTypes := #[36, 42] }, 4, "views.go:67", #[⟨22, .data⟩, ⟨25, .data⟩, ⟨21, .chain⟩, ⟨21, .guard⟩], some (21, false)⟩) rfl (fun K hK => ?_) rn
       go_simp
       go_at_call 45
       refine (hfit.out _ (HT'.out.below (hBa.out.trans (hHeld.mono hBa.out.size))) (H'.out.ds.below (hBa.out.trans (hHeld.mono hBa.out.size)))).mono ?_
       rintro e w4 ⟨rfl, hb4⟩
       refine hK.out _ _ (hHeld.trans (hb4.mono hHeld.size)) (fun hHeld => ?_)
       clear hK K
       try simp only [Act.put, sA, s0, s1]
       refine tkq (i := 27) (oi := ⟨some 73, .unOp .not 4 (.tmp 72), 4, "views.go:67", #[⟨26, .data⟩, ⟨21, .guard⟩], some (21, false)⟩) rfl hHeld ?_
       refine tkq (i := 28) (oi := ⟨some 74, .pick (.tmp 67) (.const (.bool true)) (.tmp 73), 4, "views.go:67", #[⟨21, .data⟩, ⟨27, .data⟩], none⟩) rfl hHeld ?_
       refine wpAnyH_done (by kernel_rfl) ?_ _
       have hHe := Lib.hid hHeld
       cases fb with
       | false =>
        have hB2 : B0 = false := by rw [hB.out]; rfl
        subst hB2
        have hfin := Lib.hid (hret.out _ (hBa.out.trans (hHe.out.mono hBa.out.size)))
        clear hB
        go_wp2_with fail
        exact hfin.out
       | true =>
        have hv3 : Hid (B0 = headsOk v (prevN v.hs (0 + 1)) (v.hs.drop (0 + 1))) := by show _ = _; rw [hB.out, Bool.true_and]
        have hW3 := Lib.hid (hWb.out.trans (hHe.out.mono hWb.out.size))
        clear hB hHe
        go_wp2_with fail
        go_roundw
        case rel => exact ⟨0 + 1, by omega, by go_num, hv3, hW3⟩
        case measure => simp [intOf]; omega
     · obtain ⟨j, rfl⟩ : ∃ j, k = j + 1 := ⟨k - 1, by omega⟩
       obtain ⟨h0, he0, xp⟩ := hpr'.out j rfl
       have hp0 : prevN v.hs (j + 1) = some h0.no := by unfold prevN; rw [if_neg (by omega), Nat.add_sub_cancel, he0]; rfl
       have hok2 : Hid (headOk v (prevN v.hs (j + 1)) h = (decide (h0.no < h.no) && fb)) := by show _ = _; rw [hok.out, hp0]; rfl
       have e1 : ((j + 1 : Nat) : Int) = (j : Int) + 1 := by omega
       have e2 : (j : Int) + 1 - 1 = (j : Int) := by omega
       have e3 : IntKind.i64.wrap (j : Int) = (j : Int) := IntWalk.i64_in _ (by omega)
       have j0 : (0 : Int) ≤ (j : Int) := by omega
       have j1 : (j : Int) < (hn : Int) := by omega
       have j3 : (0 : Int) < (j : Int) + 1 := by omega
       clear hok hpr' he0 hp0 hk0
       by_cases hlt2 : h0.no < h.no
       · have g1 : decide (h.no ≤ h0.no) = false := decide_eq_false (by omega)
         have hB : Hid (B0 = (fb && headsOk v (prevN v.hs (j + 1 + 1)) (v.hs.drop (j + 1 + 1)))) := by show _ = _; rw [hv2.out, hok2.out, decide_eq_true hlt2, Bool.true_and]
         clear hv2 hok2 hlt2
         refine wp_region_held_drew (S := fun wz => Below W2.heap.size W2 wz) (by kernel_rfl) ((Below.refl _ W2).drew) (fun hHeld => ?_)
         refine tk (i := 0) (oi := ⟨some 46, .load 94 (.tmp 1), 94, "views.go:67", #[], none⟩) (v := ?_) rfl (Or.inl ⟨by rfl, ?_⟩) hHeld ?_
         rotate_left
         · intro wz hSw
           have q0 := (hSw.cell (p := ⟨tb, 0, none⟩) xlt).trans x0
           have q1 := (hSw.cell (p := ⟨tb, 1, none⟩) xlt).trans x1
           have q2 := (hSw.cell (p := ⟨tb, 2, none⟩) xlt).trans x2
           have q3 := (hSw.cell (p := ⟨tb, 3, none⟩) xlt).trans x3
           have q4 := (hSw.cell (p := ⟨tb, 4, none⟩) xlt).trans x4
           go_simp
           all_goals (with_reducible rfl)
         try simp only [Act.put, sA, s0, s1]
         refine tk (i := 1) (oi := ⟨some 47, .load 36 (.tmp 4), 36, "views.go:67", #[], none⟩) rfl (yieldsIf_load_mid (by rfl) _ _ rfl tq 0 rfl (hdC h) _ (fun wz h => (hBq.out.below h qlt).range) Tryz.underlying36 rfl (hri.out)) hHeld ?_
         refine rd (rs := [2]) ?_
         refine rc (o := ⟨some 48, .call { callee := .value (.func 43), args := #[.tmp 46, .tmp 47], argTypes := #[94, 36] }, 4, "views.go:67", #[⟨0, .data⟩, ⟨1, .data⟩], none⟩) rfl (fun K hK => ?_) rn
         go_simp
         go_at_call 43
         refine (hown.out _ (HT'.out.below (hBa.out.trans (hHeld.mono hBa.out.size)))).mono ?_
         rintro e w3 ⟨rfl, hb3⟩
         refine hK.out _ _ (hHeld.trans (hb3.mono hHeld.size)) (fun hHeld => ?_)
         clear hK K
         try simp only [Act.put, sA, s0, s1]
         refine tkq (i := 3) (oi := ⟨some 49, .unOp .not 4 (.tmp 48), 4, "views.go:67", #[⟨2, .data⟩], none⟩) rfl hHeld ?_
         refine tkq (i := 4) (oi := ⟨some 50, .move (.tmp 49), 4, "views.go:67", #[⟨3, .data⟩, ⟨2, .chain⟩], none⟩) rfl hHeld ?_
         refine tkq (i := 5) (oi := ⟨some 51, .move (.tmp 3), 3, "views.go:67", #[⟨4, .guard⟩], some (4, false)⟩) rfl hHeld ?_
         refine tkq (i := 6) (oi := ⟨some 52, .binOp .gtr 3 (.tmp 51) (.const (.int .i64 0)) 3, 4, "views.go:67", #[⟨5, .data⟩, ⟨4, .guard⟩], some (4, false)⟩) rfl hHeld ?_
         refine tkq (i := 7) (oi := ⟨some 53, .move (.tmp 52), 4, "views.go:67", #[⟨6, .data⟩, ⟨4, .chain⟩, ⟨4, .guard⟩], some (4, false)⟩) rfl hHeld ?_
         refine tkq (i := 8) (oi := ⟨some 54, .fieldAddr 36 (.tmp 4) 2, 0, "views.go:67", #[⟨7, .guard⟩], some (7, true)⟩) rfl hHeld ?_
         refine tk (i := 9) (oi := ⟨some 55, .load 3 (.tmp 54), 3, "views.go:67", #[⟨8, .data⟩, ⟨7, .guard⟩], some (7, true)⟩) (v := ?_) rfl (Or.inl ⟨by rfl, ?_⟩) hHeld ?_
         rotate_left
         · intro wz hSw
           have qn := (hSw.cell (p := ⟨tq, 2, none⟩) qlt).trans xn
           go_simp
           all_goals (with_reducible rfl)
         try simp only [Act.put, sA, s0, s1]
         refine tkq (i := 10) (oi := ⟨some 56, .fieldAddr 94 (.tmp 1) 0, 0, "views.go:67", #[⟨7, .guard⟩], some (7, true)⟩) rfl hHeld ?_
         refine tkq (i := 11) (oi := ⟨some 57, .fieldAddr 45 (.tmp 56) 4, 0, "views.go:67", #[⟨10, .data⟩, ⟨7, .guard⟩], some (7, true)⟩) rfl hHeld ?_
         refine tk (i := 12) (oi := ⟨some 58, .load 43 (.tmp 57), 43, "views.go:67", #[⟨11, .data⟩, ⟨7, .guard⟩], some (7, true)⟩) (v := ?_) rfl (Or.inl ⟨by rfl, ?_⟩) hHeld ?_
         rotate_left
         · intro wz hSw
           have q0 := (hSw.cell (p := ⟨tb, 0, none⟩) xlt).trans x0
           have q1 := (hSw.cell (p := ⟨tb, 1, none⟩) xlt).trans x1
           have q2 := (hSw.cell (p := ⟨tb, 2, none⟩) xlt).trans x2
           have q3 := (hSw.cell (p := ⟨tb, 3, none⟩) xlt).trans x3
           have q4 := (hSw.cell (p := ⟨tb, 4, none⟩) xlt).trans x4
           go_simp
           all_goals (with_reducible rfl)
         try simp only [Act.put, sA, s0, s1]
         refine tkq (i := 13) (oi := ⟨some 59, .move (.tmp 3), 3, "views.go:67", #[⟨7, .guard⟩], some (7, true)⟩) rfl hHeld ?_
         refine tkq (i := 14) (oi := ⟨some 60, .binOp .sub 3 (.tmp 59) (.const (.int .i64 1)) 3, 3, "views.go:67", #[⟨13, .data⟩, ⟨7, .guard⟩], some (7, true)⟩) rfl hHeld ?_
         refine tkq (i := 15) (oi := ⟨some 61, .indexAddr 43 (.tmp 58) (.tmp 60), 0, "views.go:67", #[⟨12, .data⟩, ⟨14, .data⟩, ⟨7, .guard⟩], some (7, true)⟩) rfl hHeld ?_
         refine tkq (i := 16) (oi := ⟨some 62, .fieldAddr 36 (.tmp 61) 2, 0, "views.go:67", #[⟨15, .data⟩, ⟨7, .guard⟩], some (7, true)⟩) rfl hHeld ?_
         refine tk (i := 17) (oi := ⟨some 63, .load 3 (.tmp 62), 3, "views.go:67", #[⟨16, .data⟩, ⟨7, .guard⟩], some (7, true)⟩) (v := ?_) rfl (Or.inl ⟨by rfl, ?_⟩) hHeld ?_
         rotate_left
         · intro wz hSw
           have qp := (hSw.cell (p := ⟨b, off + j * 37 + 2, none⟩) hbl2).trans xp
           go_simp
           all_goals (with_reducible rfl)
         try simp only [Act.put, sA, s0, s1]
         refine tkq (i := 18) (oi := ⟨some 64, .binOp .leq 3 (.tmp 55) (.tmp 63) 3, 4, "views.go:67", #[⟨9, .data⟩, ⟨17, .data⟩, ⟨7, .guard⟩], some (7, true)⟩) rfl hHeld ?_
         refine tkq (i := 19) (oi := ⟨some 65, .pick (.tmp 53) (.tmp 64) (.const (.bool false)), 4, "views.go:67", #[⟨7, .data⟩, ⟨18, .data⟩, ⟨4, .guard⟩], some (4, false)⟩) rfl hHeld ?_
         refine tkq (i := 20) (oi := ⟨some 66, .pick (.tmp 50) (.const (.bool true)) (.tmp 65), 4, "views.go:67", #[⟨4, .data⟩, ⟨19, .data⟩], none⟩) rfl hHeld ?_
         refine tkq (i := 21) (oi := ⟨some 67, .move (.tmp 66), 4, "views.go:67", #[⟨20, .data⟩, ⟨7, .chain⟩], none⟩) rfl hHeld ?_
         refine tk (i := 22) (oi := ⟨some 68, .load 36 (.tmp 4), 36, "views.go:67", #[⟨21, .guard⟩], some (21, false)⟩) rfl (yieldsIf_load_mid (by rfl) _ _ rfl tq 0 rfl (hdC h) _ (fun wz h => (hBq.out.below h qlt).range) Tryz.underlying36 rfl (hri.out)) hHeld ?_
         refine tkq (i := 23) (oi := ⟨some 69, .fieldAddr 94 (.tmp 1) 0, 0, "views.go:67", #[⟨21, .guard⟩], some (21, false)⟩) rfl hHeld ?_
         refine tkq (i := 24) (oi := ⟨some 70, .fieldAddr 45 (.tmp 69) 3, 0, "views.go:67", #[⟨23, .data⟩, ⟨21, .guard⟩], some (21, false)⟩) rfl hHeld ?_
         refine tk (i := 25) (oi := ⟨some 71, .load 42 (.tmp 70), 42, "views.go:67", #[⟨24, .data⟩, ⟨21, .guard⟩], some (21, false)⟩) (v := ?_) rfl (Or.inl ⟨by rfl, ?_⟩) hHeld ?_
         rotate_left
         · intro wz hSw
           have q0 := (hSw.cell (p := ⟨tb, 0, none⟩) xlt).trans x0
           have q1 := (hSw.cell (p := ⟨tb, 1, none⟩) xlt).trans x1
           have q2 := (hSw.cell (p := ⟨tb, 2, none⟩) xlt).trans x2
           have q3 := (hSw.cell (p := ⟨tb, 3, none⟩) xlt).trans x3
           have q4 := (hSw.cell (p := ⟨tb, 4, none⟩) xlt).trans x4
           go_simp
           all_goals (with_reducible rfl)
         try simp only [Act.put, sA, s0, s1]
         refine rd (rs := [26]) ?_
         refine rc (o := ⟨some 72, .call { callee := .value (.func 45), args := #[.tmp 68, .tmp 71], argTypes := #[36, 42] }, 4, "views.go:67", #[⟨22, .data⟩, ⟨25, .data⟩, ⟨21, .chain⟩, ⟨21, .guard⟩], some (21, false)⟩) rfl (fun K hK => ?_) rn
         go_simp
         go_at_call 45
         refine (hfit.out _ (HT'.out.below (hBa.out.trans (hHeld.mono hBa.out.size))) (H'.out.ds.below (hBa.out.trans (hHeld.mono hBa.out.size)))).mono ?_
         rintro e w4 ⟨rfl, hb4⟩
         refine hK.out _ _ (hHeld.trans (hb4.mono hHeld.size)) (fun hHeld => ?_)
         clear hK K
         try simp only [Act.put, sA, s0, s1]
         refine tkq (i := 27) (oi := ⟨some 73, .unOp .not 4 (.tmp 72), 4, "views.go:67", #[⟨26, .data⟩, ⟨21, .guard⟩], some (21, false)⟩) rfl hHeld ?_
         refine tkq (i := 28) (oi := ⟨some 74, .pick (.tmp 67) (.const (.bool true)) (.tmp 73), 4, "views.go:67", #[⟨21, .data⟩, ⟨27, .data⟩], none⟩) rfl hHeld ?_
         refine wpAnyH_done (by kernel_rfl) ?_ _
         have hHe := Lib.hid hHeld
         cases fb with
         | false =>
          have hB2 : B0 = false := by rw [hB.out]; rfl
          subst hB2
          have hfin := Lib.hid (hret.out _ (hBa.out.trans (hHe.out.mono hBa.out.size)))
          clear hB
          go_wp2_with fail
          exact hfin.out
         | true =>
          have hv3 : Hid (B0 = headsOk v (prevN v.hs ((j + 1) + 1)) (v.hs.drop ((j + 1) + 1))) := by show _ = _; rw [hB.out, Bool.true_and]
          have hW3 := Lib.hid (hWb.out.trans (hHe.out.mono hWb.out.size))
          clear hB hHe
          go_wp2_with fail
          go_roundw
          case rel => exact ⟨(j + 1) + 1, by omega, by go_num, hv3, hW3⟩
          case measure => simp [intOf]; omega
       · have g1 : decide (h.no ≤ h0.no) = true := decide_eq_true (by omega)
         have hB : B0 = false := by rw [hv2.out, hok2.out, decide_eq_false hlt2]; rfl
         subst hB
         clear hv2 hok2 hlt2 hfit
         refine wp_region_held_drew (S := fun wz => Below W2.heap.size W2 wz) (by kernel_rfl) ((Below.refl _ W2).drew) (fun hHeld => ?_)
         refine tk (i := 0) (oi := ⟨some 46, .load 94 (.tmp 1), 94, "views.go:67", #[], none⟩) (v := ?_) rfl (Or.inl ⟨by rfl, ?_⟩) hHeld ?_
         rotate_left
         · intro wz hSw
           have q0 := (hSw.cell (p := ⟨tb, 0, none⟩) xlt).trans x0
           have q1 := (hSw.cell (p := ⟨tb, 1, none⟩) xlt).trans x1
           have q2 := (hSw.cell (p := ⟨tb, 2, none⟩) xlt).trans x2
           have q3 := (hSw.cell (p := ⟨tb, 3, none⟩) xlt).trans x3
           have q4 := (hSw.cell (p := ⟨tb, 4, none⟩) xlt).trans x4
           go_simp
           all_goals (with_reducible rfl)
         try simp only [Act.put, sA, s0, s1]
         refine tk (i := 1) (oi := ⟨some 47, .load 36 (.tmp 4), 36, "views.go:67", #[], none⟩) rfl (yieldsIf_load_mid (by rfl) _ _ rfl tq 0 rfl (hdC h) _ (fun wz h => (hBq.out.below h qlt).range) Tryz.underlying36 rfl (hri.out)) hHeld ?_
         refine rd (rs := [2]) ?_
         refine rc (o := ⟨some 48, .call { callee := .value (.func 43), args := #[.tmp 46, .tmp 47], argTypes := #[94, 36] }, 4, "views.go:67", #[⟨0, .data⟩, ⟨1, .data⟩], none⟩) rfl (fun K hK => ?_) rn
         go_simp
         go_at_call 43
         refine (hown.out _ (HT'.out.below (hBa.out.trans (hHeld.mono hBa.out.size)))).mono ?_
         rintro e w3 ⟨rfl, hb3⟩
         refine hK.out _ _ (hHeld.trans (hb3.mono hHeld.size)) (fun hHeld => ?_)
         clear hK K
         try simp only [Act.put, sA, s0, s1]
         refine tkq (i := 3) (oi := ⟨some 49, .unOp .not 4 (.tmp 48), 4, "views.go:67", #[⟨2, .data⟩], none⟩) rfl hHeld ?_
         refine tkq (i := 4) (oi := ⟨some 50, .move (.tmp 49), 4, "views.go:67", #[⟨3, .data⟩, ⟨2, .chain⟩], none⟩) rfl hHeld ?_
         refine tkq (i := 5) (oi := ⟨some 51, .move (.tmp 3), 3, "views.go:67", #[⟨4, .guard⟩], some (4, false)⟩) rfl hHeld ?_
         refine tkq (i := 6) (oi := ⟨some 52, .binOp .gtr 3 (.tmp 51) (.const (.int .i64 0)) 3, 4, "views.go:67", #[⟨5, .data⟩, ⟨4, .guard⟩], some (4, false)⟩) rfl hHeld ?_
         refine tkq (i := 7) (oi := ⟨some 53, .move (.tmp 52), 4, "views.go:67", #[⟨6, .data⟩, ⟨4, .chain⟩, ⟨4, .guard⟩], some (4, false)⟩) rfl hHeld ?_
         refine tkq (i := 8) (oi := ⟨some 54, .fieldAddr 36 (.tmp 4) 2, 0, "views.go:67", #[⟨7, .guard⟩], some (7, true)⟩) rfl hHeld ?_
         refine tk (i := 9) (oi := ⟨some 55, .load 3 (.tmp 54), 3, "views.go:67", #[⟨8, .data⟩, ⟨7, .guard⟩], some (7, true)⟩) (v := ?_) rfl (Or.inl ⟨by rfl, ?_⟩) hHeld ?_
         rotate_left
         · intro wz hSw
           have qn := (hSw.cell (p := ⟨tq, 2, none⟩) qlt).trans xn
           go_simp
           all_goals (with_reducible rfl)
         try simp only [Act.put, sA, s0, s1]
         refine tkq (i := 10) (oi := ⟨some 56, .fieldAddr 94 (.tmp 1) 0, 0, "views.go:67", #[⟨7, .guard⟩], some (7, true)⟩) rfl hHeld ?_
         refine tkq (i := 11) (oi := ⟨some 57, .fieldAddr 45 (.tmp 56) 4, 0, "views.go:67", #[⟨10, .data⟩, ⟨7, .guard⟩], some (7, true)⟩) rfl hHeld ?_
         refine tk (i := 12) (oi := ⟨some 58, .load 43 (.tmp 57), 43, "views.go:67", #[⟨11, .data⟩, ⟨7, .guard⟩], some (7, true)⟩) (v := ?_) rfl (Or.inl ⟨by rfl, ?_⟩) hHeld ?_
         rotate_left
         · intro wz hSw
           have q0 := (hSw.cell (p := ⟨tb, 0, none⟩) xlt).trans x0
           have q1 := (hSw.cell (p := ⟨tb, 1, none⟩) xlt).trans x1
           have q2 := (hSw.cell (p := ⟨tb, 2, none⟩) xlt).trans x2
           have q3 := (hSw.cell (p := ⟨tb, 3, none⟩) xlt).trans x3
           have q4 := (hSw.cell (p := ⟨tb, 4, none⟩) xlt).trans x4
           go_simp
           all_goals (with_reducible rfl)
         try simp only [Act.put, sA, s0, s1]
         refine tkq (i := 13) (oi := ⟨some 59, .move (.tmp 3), 3, "views.go:67", #[⟨7, .guard⟩], some (7, true)⟩) rfl hHeld ?_
         refine tkq (i := 14) (oi := ⟨some 60, .binOp .sub 3 (.tmp 59) (.const (.int .i64 1)) 3, 3, "views.go:67", #[⟨13, .data⟩, ⟨7, .guard⟩], some (7, true)⟩) rfl hHeld ?_
         refine tkq (i := 15) (oi := ⟨some 61, .indexAddr 43 (.tmp 58) (.tmp 60), 0, "views.go:67", #[⟨12, .data⟩, ⟨14, .data⟩, ⟨7, .guard⟩], some (7, true)⟩) rfl hHeld ?_
         refine tkq (i := 16) (oi := ⟨some 62, .fieldAddr 36 (.tmp 61) 2, 0, "views.go:67", #[⟨15, .data⟩, ⟨7, .guard⟩], some (7, true)⟩) rfl hHeld ?_
         refine tk (i := 17) (oi := ⟨some 63, .load 3 (.tmp 62), 3, "views.go:67", #[⟨16, .data⟩, ⟨7, .guard⟩], some (7, true)⟩) (v := ?_) rfl (Or.inl ⟨by rfl, ?_⟩) hHeld ?_
         rotate_left
         · intro wz hSw
           have qp := (hSw.cell (p := ⟨b, off + j * 37 + 2, none⟩) hbl2).trans xp
           go_simp
           all_goals (with_reducible rfl)
         try simp only [Act.put, sA, s0, s1]
         refine tkq (i := 18) (oi := ⟨some 64, .binOp .leq 3 (.tmp 55) (.tmp 63) 3, 4, "views.go:67", #[⟨9, .data⟩, ⟨17, .data⟩, ⟨7, .guard⟩], some (7, true)⟩) rfl hHeld ?_
         refine tkq (i := 19) (oi := ⟨some 65, .pick (.tmp 53) (.tmp 64) (.const (.bool false)), 4, "views.go:67", #[⟨7, .data⟩, ⟨18, .data⟩, ⟨4, .guard⟩], some (4, false)⟩) rfl hHeld ?_
         refine tkq (i := 20) (oi := ⟨some 66, .pick (.tmp 50) (.const (.bool true)) (.tmp 65), 4, "views.go:67", #[⟨4, .data⟩, ⟨19, .data⟩], none⟩) rfl hHeld ?_
         refine tkq (i := 21) (oi := ⟨some 67, .move (.tmp 66), 4, "views.go:67", #[⟨20, .data⟩, ⟨7, .chain⟩], none⟩) rfl hHeld ?_
         refine tk (i := 22) (oi := ⟨some 68, .load 36 (.tmp 4), 36, "views.go:67", #[⟨21, .guard⟩], some (21, false)⟩) (v := undef) rfl (Or.inr ⟨by rfl, rfl⟩) hHeld ?_
         refine tk (i := 23) (oi := ⟨some 69, .fieldAddr 94 (.tmp 1) 0, 0, "views.go:67", #[⟨21, .guard⟩], some (21, false)⟩) (v := undef) rfl (Or.inr ⟨by rfl, rfl⟩) hHeld ?_
         refine tk (i := 24) (oi := ⟨some 70, .fieldAddr 45 (.tmp 69) 3, 0, "views.go:67", #[⟨23, .data⟩, ⟨21, .guard⟩], some (21, false)⟩) (v := undef) rfl (Or.inr ⟨by rfl, rfl⟩) hHeld ?_
         refine tk (i := 25) (oi := ⟨some 71, .load 42 (.tmp 70), 42, "views.go:67", #[⟨24, .data⟩, ⟨21, .guard⟩], some (21, false)⟩) (v := undef) rfl (Or.inr ⟨by rfl, rfl⟩) hHeld ?_
         refine rd (rs := [26]) ?_
         refine AllReadyH.cons (o := ⟨some 72, .call { callee := .value (.func 45), args := #[.tmp 68, .tmp 71], argTypes := #[36, 42] }, 4, "views.go:67", #[⟨22, .data⟩, ⟨25, .data⟩, ⟨21, .chain⟩, ⟨21, .guard⟩], some (21, false)⟩) rfl (fun K hK => ?_) AllReadyH.nil
         rw [if_neg (Bool.eq_false_iff.1 (by rfl))]
         refine hK.out _ _ hHeld (fun hHeld => ?_)
         clear hK K
         try simp only [Act.put, sA, s0, s1]
         refine tk (i := 27) (oi := ⟨some 73, .unOp .not 4 (.tmp 72), 4, "views.go:67", #[⟨26, .data⟩, ⟨21, .guard⟩], some (21, false)⟩) (v := undef) rfl (Or.inr ⟨by rfl, rfl⟩) hHeld ?_
         refine tkq (i := 28) (oi := ⟨some 74, .pick (.tmp 67) (.const (.bool true)) (.tmp 73), 4, "views.go:67", #[⟨21, .data⟩, ⟨27, .data⟩], none⟩) rfl hHeld ?_
         refine wpAnyH_done (by kernel_rfl) ?_ _
         have hfin := Lib.hid (hret.out _ (hBa.out.trans (hHeld.mono hBa.out.size)))
         go_wp2_with fail
         exact hfin.out
end Go.Proofs.YtiionehcmoginaaGreatDoor
