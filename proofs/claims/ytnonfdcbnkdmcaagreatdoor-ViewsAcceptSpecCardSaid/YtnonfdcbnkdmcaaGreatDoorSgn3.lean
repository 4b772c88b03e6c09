/- [3]api.Errno compared with its zero sign.Verify -/
import Derived.Test.YtnonfdcbnkdmcaaGreatDoorSgn2
import Derived.Deep.DeepCutAuto
namespace Go.Proofs.YtnonfdcbnkdmcaaGreatDoor
open Go.RowKit Go.Mem

theorem eq3 (a b c : Int) (ha : a = 0 ∨ a = 40) (hb : b = 0 ∨ b = 40) (hc : c = 0 ∨ c = 1) (w : World) : (Op.equalIn 10000 183 (.agg #[.int .i64 a, .int .i64 b, .int .i64 c]) (.agg #[.int .i64 0, .int .i64 0, .int .i64 0])).run Tryz.prog w = .ok (decide (a = 0 ∧ b = 0 ∧ c = 0)) w := by
 rcases ha with rfl | rfl <;> rcases hb with rfl | rfl <;> rcases hc with rfl | rfl <;> (show _ = _; kernel_rfl)
theorem fchk_cases (a : Int) : Fld.chk a = 0 ∨ Fld.chk a = 1 := by unfold Fld.chk; split <;> simp
end Go.Proofs.YtnonfdcbnkdmcaaGreatDoor
namespace Go.Proofs.YtnonfdcbnkdmcaaGreatDoor
open Go.RowKit Go.Mem

def verB (b pub : Int) (msg : List Nat) (R S : Int) : Bool :=
 if Grp.chk pub = 0 ∧ Grp.chk R = 0 ∧ Fld.chk S = 0 then decide (pubB b S = (Grp.mul R (Grp.exp pub (signH msg R pub)).1).1) else false

def RetBo (v : Bool) (w : World) (e : Ending) (w' : World) : Prop := e = .returned (.bool v) ∧ Below w.heap.size w w'

def VerW (w : World) (tb : Nat) (R S : Int) (wz : World) : Prop := Blk wz tb 34 [.int .i64 R, .int .i64 S] ∧ Below w.heap.size w wz
section
variable {w wz wq : World} {tb : Nat} {R S : Int}
theorem VerW.next (hb : Below wz.heap.size wz wq) (h : VerW w tb R S wz) : VerW w tb R S wq := ⟨h.1.below hb h.1.lt, h.2.trans (hb.mono h.2.size)⟩
theorem VerW.both (h : VerW w tb R S wz) : wz.cell? ⟨tb, 0, none⟩ = some (.int .i64 R) ∧ wz.cell? ⟨tb, 1, none⟩ = some (.int .i64 S) ∧ VerW w tb R S wz := ⟨h.1.at_ (i := 0) rfl, h.1.at_ (i := 1) rfl, h⟩
theorem VerW.nextB (hb : Below wz.heap.size wz wq) (h : wz.cell? ⟨tb, 0, none⟩ = some (.int .i64 R) ∧ wz.cell? ⟨tb, 1, none⟩ = some (.int .i64 S) ∧ VerW w tb R S wz) : wq.cell? ⟨tb, 0, none⟩ = some (.int .i64 R) ∧ wq.cell? ⟨tb, 1, none⟩ = some (.int .i64 S) ∧ VerW w tb R S wq := (h.2.2.next hb).both
theorem VerW.drewB (h : wz.cell? ⟨tb, 0, none⟩ = some (.int .i64 R) ∧ wz.cell? ⟨tb, 1, none⟩ = some (.int .i64 S) ∧ VerW w tb R S wz) : wz.drew.cell? ⟨tb, 0, none⟩ = some (.int .i64 R) ∧ wz.drew.cell? ⟨tb, 1, none⟩ = some (.int .i64 S) ∧ VerW w tb R S wz.drew := VerW.both ⟨h.2.2.1, h.2.2.2.drew⟩
theorem VerW.allocB (h : wz.cell? ⟨tb, 0, none⟩ = some (.int .i64 R) ∧ wz.cell? ⟨tb, 1, none⟩ = some (.int .i64 S) ∧ VerW w tb R S wz) (o : Obj) : (wz.alloc o).cell? ⟨tb, 0, none⟩ = some (.int .i64 R) ∧ (wz.alloc o).cell? ⟨tb, 1, none⟩ = some (.int .i64 S) ∧ VerW w tb R S (wz.alloc o) := (h.2.2.next ((Below.refl _ _).alloc (Nat.le_refl _) o)).both
theorem VerW.set (h : VerW w tb R S wz) {p : Addr} (hp : tb < p.block) (hw : w.heap.size ≤ tb) (u : Value) : VerW w tb R S (wz.setCell p u) := ⟨h.1.far (by omega) u, h.2.setCell (by omega) u⟩
end

theorem VerW.lt3 {w wz : World} {tb : Nat} {R S : Int} (h : wz.cell? ⟨tb, 0, none⟩ = some (.int .i64 R) ∧ wz.cell? ⟨tb, 1, none⟩ = some (.int .i64 S) ∧ VerW w tb R S wz) : tb < wz.heap.size := h.2.2.1.lt
theorem VerW.store3 {w wz : World} {tb g : Nat} {R S : Int} (h : wz.cell? ⟨tb, 0, none⟩ = some (.int .i64 R) ∧ wz.cell? ⟨tb, 1, none⟩ = some (.int .i64 S) ∧ VerW w tb R S wz) (hg : tb < g) (hw : w.heap.size ≤ tb) (a b c : Value) :
 (((wz.setCell ⟨g, 0, none⟩ a).setCell ⟨g, 1, none⟩ b).setCell ⟨g, 2, none⟩ c).cell? ⟨tb, 0, none⟩ = some (.int .i64 R) ∧ (((wz.setCell ⟨g, 0, none⟩ a).setCell ⟨g, 1, none⟩ b).setCell ⟨g, 2, none⟩ c).cell? ⟨tb, 1, none⟩ = some (.int .i64 S) ∧ VerW w tb R S (((wz.setCell ⟨g, 0, none⟩ a).setCell ⟨g, 1, none⟩ b).setCell ⟨g, 2, none⟩ c) :=
 (((h.2.2.set (p := ⟨g, 0, none⟩) hg hw a).set (p := ⟨g, 1, none⟩) hg hw b).set (p := ⟨g, 2, none⟩) hg hw c).both
theorem newB {wz wq : World} {g : Nat} (hb : Below wz.heap.size wz wq) (h : Blk wz g 183 [Value.int .i64 0, Value.int .i64 0, Value.int .i64 0]) : Blk wq g 183 [Value.int .i64 0, Value.int .i64 0, Value.int .i64 0] := h.below hb h.lt

theorem VerW.of {w wz : World} {tb : Nat} {R S : Int} (h : wz.cell? ⟨tb, 0, none⟩ = some (.int .i64 R) ∧ wz.cell? ⟨tb, 1, none⟩ = some (.int .i64 S) ∧ VerW w tb R S wz) : VerW w tb R S wz := h.2.2
theorem set3 {X : World} {g : Nat} {t : TypeId} {a b c x y z : Value} (h : Blk X g t [a, b, c]) : Blk (((X.setCell ⟨g, 0, none⟩ x).setCell ⟨g, 1, none⟩ y).setCell ⟨g, 2, none⟩ z) g t [x, y, z] := ((h.set 0 x).set 1 y).set 2 z
theorem newA {wz wq : World} (hb : Below (wz.drew.alloc (.cells #[Value.int .i64 0, Value.int .i64 0, Value.int .i64 0] 183)).heap.size (wz.drew.alloc (.cells #[Value.int .i64 0, Value.int .i64 0, Value.int .i64 0] 183)) wq) : Blk wq wz.heap.size 183 [Value.int .i64 0, Value.int .i64 0, Value.int .i64 0] :=
 Blk.below (Blk.new wz.drew _ [Value.int .i64 0, Value.int .i64 0, Value.int .i64 0]) hb (Blk.lt (Blk.new _ _ _))

set_option maxRecDepth 20000 in
set_option maxHeartbeats 2000000 in
theorem Verify_any (pub R S : Int) (hp : -9223372036854775808 ≤ pub ∧ pub ≤ 9223372036854775807) (hR : -9223372036854775808 ≤ R ∧ R ≤ 9223372036854775807) (a : Option Addr) (n c : Nat) (l : List Nat) (w : World) (HT : Tabs w) (H : BS w a n c l) (hn : n ≤ 140737488354000) :
 Calls Tryz.prog 105 #[.int .i64 pub, .slice a n c, .agg #[.int .i64 R, .int .i64 S]] w (RetBo (verB 4 pub l R S) w) := by
 have HT' := Lib.hid HT; have H' := Lib.hid H
 clear HT H
 obtain ⟨tb, htb⟩ : ∃ tb, Hid (w.heap.size = tb) := ⟨_, rfl⟩
 go_enter Tryz.func105, Tryz.ntmps105
 go_upto_region 1 with fail
 rw [htb.out]
 generalize hW1 : World.alloc w _ = W1
 have hV : VerW w tb R S W1 := ⟨by rw [← hW1, ← htb.out]; exact Blk.new w _ _, by rw [← hW1]; exact (Below.refl _ w).alloc (Nat.le_refl _) _⟩
 clear hW1
 have hVb := hV.both
 have hle : w.heap.size ≤ tb := Nat.le_of_eq htb.out
 have c1 := Lib.hid (fun W => gcheck_any pub W)
 have c2 := Lib.hid (fun W => gcheck_any R W)
 have c3 := Lib.hid (fun W => fcheck_any S W)
 obtain ⟨e1, h1⟩ : ∃ e, Hid (Grp.chk pub = e) := ⟨_, rfl⟩
 obtain ⟨e2, h2⟩ : ∃ e, Hid (Grp.chk R = e) := ⟨_, rfl⟩
 obtain ⟨e3, h3⟩ : ∃ e, Hid (Fld.chk S = e) := ⟨_, rfl⟩
 rw [h1.out] at c1
 rw [h2.out] at c2
 rw [h3.out] at c3
 go_cut [7] (fun s7 wx => ∃ g : Nat, s7 = .pointer (some ⟨g, 0, none⟩) ∧ Blk wx g 183 [.int .i64 e1, .int .i64 e2, .int .i64 e3] ∧ VerW w tb R S wx)
 case first =>
  go_region_held3 (fun wz => wz.cell? ⟨tb, 0, none⟩ = some (.int .i64 R) ∧ wz.cell? ⟨tb, 1, none⟩ = some (.int .i64 S) ∧ VerW w tb R S wz) (repeat (first | assumption | apply VerW.drewB | apply VerW.allocB | (refine VerW.store3 ?_ (VerW.lt3 (by assumption)) hle _ _ _)))
   (first
     | (go_at_call_of 156 (Value.int .i64 pub); refine (c1.out _).mono ?_; rintro e wq ⟨rfl, hbq⟩; have hsq := VerW.nextB hbq (by assumption); (first | (have hN := newA hbq; have n0 := hN.at_ (i := 0) rfl; have n1 := hN.at_ (i := 1) rfl; have n2 := hN.at_ (i := 2) rfl; have m0 := hN.frozen 0; have m1 := hN.frozen 1; have m2 := hN.frozen 2) | (have hN := Blk.below (Blk.new _ 183 [Value.int .i64 0, Value.int .i64 0, Value.int .i64 0]) hbq (Blk.lt (Blk.new _ _ _)); have n0 := hN.at_ (i := 0) rfl; have n1 := hN.at_ (i := 1) rfl; have n2 := hN.at_ (i := 2) rfl; have m0 := hN.frozen 0; have m1 := hN.frozen 1; have m2 := hN.frozen 2) | (have hN := newB hbq (by assumption); have n0 := hN.at_ (i := 0) rfl; have n1 := hN.at_ (i := 1) rfl; have n2 := hN.at_ (i := 2) rfl; have m0 := hN.frozen 0; have m1 := hN.frozen 1; have m2 := hN.frozen 2) | skip))
      | (go_at_call_of 156 (Value.int .i64 R); refine (c2.out _).mono ?_; rintro e wq ⟨rfl, hbq⟩; have hsq := VerW.nextB hbq (by assumption); (first | (have hN := newA hbq; have n0 := hN.at_ (i := 0) rfl; have n1 := hN.at_ (i := 1) rfl; have n2 := hN.at_ (i := 2) rfl; have m0 := hN.frozen 0; have m1 := hN.frozen 1; have m2 := hN.frozen 2) | (have hN := Blk.below (Blk.new _ 183 [Value.int .i64 0, Value.int .i64 0, Value.int .i64 0]) hbq (Blk.lt (Blk.new _ _ _)); have n0 := hN.at_ (i := 0) rfl; have n1 := hN.at_ (i := 1) rfl; have n2 := hN.at_ (i := 2) rfl; have m0 := hN.frozen 0; have m1 := hN.frozen 1; have m2 := hN.frozen 2) | (have hN := newB hbq (by assumption); have n0 := hN.at_ (i := 0) rfl; have n1 := hN.at_ (i := 1) rfl; have n2 := hN.at_ (i := 2) rfl; have m0 := hN.frozen 0; have m1 := hN.frozen 1; have m2 := hN.frozen 2) | skip))
      | (go_at_call_of 157 (Value.int .i64 S); refine (c3.out _).mono ?_; rintro e wq ⟨rfl, hbq⟩; have hsq := VerW.nextB hbq (by assumption); (first | (have hN := newA hbq; have n0 := hN.at_ (i := 0) rfl; have n1 := hN.at_ (i := 1) rfl; have n2 := hN.at_ (i := 2) rfl; have m0 := hN.frozen 0; have m1 := hN.frozen 1; have m2 := hN.frozen 2) | (have hN := Blk.below (Blk.new _ 183 [Value.int .i64 0, Value.int .i64 0, Value.int .i64 0]) hbq (Blk.lt (Blk.new _ _ _)); have n0 := hN.at_ (i := 0) rfl; have n1 := hN.at_ (i := 1) rfl; have n2 := hN.at_ (i := 2) rfl; have m0 := hN.frozen 0; have m1 := hN.frozen 1; have m2 := hN.frozen 2) | (have hN := newB hbq (by assumption); have n0 := hN.at_ (i := 0) rfl; have n1 := hN.at_ (i := 1) rfl; have n2 := hN.at_ (i := 2) rfl; have m0 := hN.frozen 0; have m1 := hN.frozen 1; have m2 := hN.frozen 2) | skip)))
  all_goals go_wp2_with fail
  all_goals go_meet
  all_goals (refine ⟨_, rfl, ?_, VerW.of (by assumption)⟩)
  all_goals (first | exact set3 hN | exact set3 (Blk.new _ _ _) | exact Blk.new _ _ _)
 case rest =>
  obtain ⟨g, rfl, hg, hv⟩ := hcut
  have hv' := Lib.hid hv
  have q0 := hg.at_ (i := 0) rfl
  have q1 := hg.at_ (i := 1) rfl
  have q2 := hg.at_ (i := 2) rfl
  have r0 := hv.1.at_ (i := 0) rfl
  have r1 := hv.1.at_ (i := 1) rfl
  have hvd : verB 4 pub l R S = if e1 = 0 ∧ e2 = 0 ∧ e3 = 0 then decide (pubB 4 S = (Grp.mul R (Grp.exp pub (signH l R pub)).1).1) else false := by
   rw [← h1.out, ← h2.out, ← h3.out]; rfl
  have heq := fun W => eq3 e1 e2 e3 (by rw [← h1.out]; exact chk_cases pub) (by rw [← h2.out]; exact chk_cases R) (by rw [← h3.out]; exact fchk_cases S) W
  clear hg hv c1 c2 c3 hVb hV h1 h2 h3
  by_cases z1 : e1 = 0
  · by_cases z2 : e2 = 0
    · by_cases z3 : e3 = 0
      · subst z1 z2 z3
        rw [if_pos ⟨rfl, rfl, rfl⟩] at hvd
        have heq1 : ∀ W, (Op.equalIn 10000 183 (.agg #[.int .i64 0, .int .i64 0, .int .i64 0]) (.agg #[.int .i64 0, .int .i64 0, .int .i64 0])).run Tryz.prog W = .ok true W := fun W => (heq W).trans (by rw [decide_eq_true ⟨rfl, rfl, rfl⟩])
        have hvd' := Lib.hid hvd
        clear heq hvd
        go_wp2_with fail
        have hbs : Hid (Calls Tryz.prog 128 #[.int .i64 S] wc (fun e w' => ∃ q, e = .returned (.tuple #[.int .i64 (pubB 4 S), .int .i64 q]) ∧ Below wc.heap.size wc w')) := (gbase_any S wc).mono fun _ _ h => ret_pub h
        generalize pubB 4 S = L at *
        refine hbs.out.mono ?_
        rintro e w1 ⟨q, rfl, hb1⟩
        have hv1 := hv'.out.next hb1
        have hvb := hv1.both
        clear hbs hb1 hv' r0 r1 q0 q1 q2 heq1
        have hh : Hid (∀ W : World, (((W.alloc (.cells #[.int .i64 R, .int .i64 pub] 3)).cell? ⟨tb, 0, none⟩ = some (.int .i64 R) ∧ (W.alloc (.cells #[.int .i64 R, .int .i64 pub] 3)).cell? ⟨tb, 1, none⟩ = some (.int .i64 S) ∧ VerW w tb R S (W.alloc (.cells #[.int .i64 R, .int .i64 pub] 3)))) → Calls Tryz.prog 127 #[.string ⟨#[115, 105, 103, 110]⟩, .slice a n c, .slice (some ⟨W.heap.size, 0, none⟩) 2 2] (W.alloc (.cells #[.int .i64 R, .int .i64 pub] 3)) (RetI (signH l R pub) (W.alloc (.cells #[.int .i64 R, .int .i64 pub] 3)))) := fun W hS =>
         hash_any ⟨#[115, 105, 103, 110]⟩ (by decide) a n c l W.heap.size 2 2 3 [R, pub] _ (HT'.out.below hS.2.2.2) (H'.out.below hS.2.2.2) hn (Blk.new W 3 [.int .i64 R, .int .i64 pub]) rfl (by omega) (by omega) (by omega) (by
          intro u hu
          simp only [List.mem_cons, List.not_mem_nil, or_false] at hu
          rcases hu with rfl | rfl <;> omega)
        generalize signH l R pub = h at *
        have hex := Lib.hid (fun W => gexp_any pub h W)
        generalize Grp.exp pub h = ep at *
        obtain ⟨p1, p2⟩ := ep
        have hmu := Lib.hid (fun W => gmul_any R p1 W)
        simp only [] at *
        generalize Grp.mul R p1 = em at *
        obtain ⟨g1, g2⟩ := em
        go_wp2_with fail
        have hva := VerW.allocB hvb (.cells #[.int .i64 R, .int .i64 pub] 3)
        refine (hh.out w1 hva).mono ?_
        rintro e w2 ⟨rfl, hb2⟩
        have hv2 := hva.2.2.next hb2
        clear hva hvb hv1 hh hb2
        go_wp2_with fail
        refine (hex.out _).mono ?_
        rintro e w3 ⟨rfl, hb3⟩
        have hv3 := hv2.next hb3
        have r0 := hv3.both.1
        clear hv2 hb3 hex
        go_wp2_with fail
        refine (hmu.out _).mono ?_
        rintro e w4 ⟨rfl, hb4⟩
        have hv4 := hv3.next hb4
        clear hv3 hb4 hmu r0
        go_wp2_with fail
        go_returns
        exact ⟨by rw [hvd'.out]; first | rfl | simp [beq_eq_decide], hv4.2⟩
      · rw [if_neg (fun h => z3 h.2.2)] at hvd
        have heq1 : ∀ W, (Op.equalIn 10000 183 (.agg #[.int .i64 e1, .int .i64 e2, .int .i64 e3]) (.agg #[.int .i64 0, .int .i64 0, .int .i64 0])).run Tryz.prog W = .ok false W := fun W => (heq W).trans (by rw [decide_eq_false (fun h => z3 h.2.2)])
        have hvd' := Lib.hid hvd
        clear heq hvd
        subst z1 z2
        go_wp2_with fail
        go_returns
        exact ⟨by rw [hvd'.out]; rfl, hv'.out.2⟩
    · rw [if_neg (fun h => z2 h.2.1)] at hvd
      have heq1 : ∀ W, (Op.equalIn 10000 183 (.agg #[.int .i64 e1, .int .i64 e2, .int .i64 e3]) (.agg #[.int .i64 0, .int .i64 0, .int .i64 0])).run Tryz.prog W = .ok false W := fun W => (heq W).trans (by rw [decide_eq_false (fun h => z2 h.2.1)])
      have hvd' := Lib.hid hvd
      clear heq hvd
      subst z1
      go_wp2_with fail
      go_returns
      exact ⟨by rw [hvd'.out]; rfl, hv'.out.2⟩
  · rw [if_neg (fun h => z1 h.1)] at hvd
    have heq1 : ∀ W, (Op.equalIn 10000 183 (.agg #[.int .i64 e1, .int .i64 e2, .int .i64 e3]) (.agg #[.int .i64 0, .int .i64 0, .int .i64 0])).run Tryz.prog W = .ok false W := fun W => (heq W).trans (by rw [decide_eq_false (fun h => z1 h.1)])
    have hvd' := Lib.hid hvd
    clear heq hvd
    go_wp2_with fail
    go_returns
    exact ⟨by rw [hvd'.out]; rfl, hv'.out.2⟩
end Go.Proofs.YtnonfdcbnkdmcaaGreatDoor

