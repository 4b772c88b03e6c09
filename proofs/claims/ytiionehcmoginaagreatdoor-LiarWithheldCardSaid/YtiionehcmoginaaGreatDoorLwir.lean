/- LiarWithheld: the walk -/
import Derived.Test.YtiionehcmoginaaGreatDoorLiC
import Derived.Test.YtiionehcmoginaaGreatDoorCards
import Derived.Test.YtiionehcmoginaaGreatDoorTie
import Derived.SevenTiedAt
import Derived.Deep.DeepHandedRow
import Derived.Deep.DeepWitnessRowRef
namespace Go.Proofs.YtiionehcmoginaaGreatDoor
open Go.RowKit Go.Mem Go.Shelf
open Go.Sto (Ent St Rul forkE BdL)
open Go.Vw (Hd Sg eqH)

theorem RS_take {α : Type} {s : Nat} {R : World → α → List Value → Prop} {K : Nat → Prop} {w : World} {a : Option Addr} {n c : Nat} {l : List α} (h : RS s R K w a n c l) {k : Nat} (hk : k ≤ n) : RS s R K w a k c (l.take k) := by
  obtain ⟨rows, hr, ho⟩ := h.rows
  refine ⟨by rw [List.length_take, h.len]; omega, fun hn => h.sep (by omega), rows.take k, ⟨?_, by have := h.le; omega, h.max, fun e => by have := h.nil' e; omega, fun hn => ?_⟩, ho.take k⟩
  · rw [flat_len (ho.take k).size, List.length_take, ho.len, h.len, Nat.min_eq_left hk]
  · obtain ⟨b, off, e, hb, hc⟩ := hr.cells (by omega)
    refine ⟨b, off, e, hb, fun j u hj => hc j u ?_⟩
    have e2 : rows.flatten = (rows.take k).flatten ++ (rows.drop k).flatten := by rw [← List.flatten_append, List.take_append_drop]
    rw [e2, List.getElem?_append_left (List.getElem?_eq_some_iff.1 hj).1]
    exact hj
theorem _root_.Go.Sto.withheld_law {s : St} {rs : List Rul} {a b f : Int} (ha : ∀ r ∈ rs, r.dev ≠ a) (hb : ∀ r ∈ rs, r.dev = b → r.kind = 1 ∨ r.kind = 6) (h1 : (Sto.showL s rs a f).2 = 0) (h2 : (Sto.showL s rs b f).2 = 0) :
    (Sto.showL s rs b f).1.length ≤ (Sto.showL s rs a f).1.length ∧ (Sto.showL s rs a f).1.take (Sto.showL s rs b f).1.length = (Sto.showL s rs b f).1 ∧ Sto.apartL s rs a b f = (false, 0) := by
  obtain ⟨h3, h4⟩ := Sto.showL_ok h1
  obtain ⟨h5, h6⟩ := Sto.showL_ok h2
  obtain ⟨k, hk, e, ea⟩ := Sto.shown_apart ha hb h3 h5
  rw [h4, h6, e]
  refine ⟨by rw [List.length_take]; omega, ?_, ea⟩
  rw [List.length_take, Nat.min_eq_left hk]
theorem lelemE : Tryz.prog.underlying 30 = some (.slice (Tryz.prog.elem 30)) := by kernel_rfl
theorem lsizeOfE (W : World) : (sizeOf (Tryz.prog.elem 30)).run Tryz.prog W = .ok 35 W := by kernel_rfl
theorem ltakeE {K : Nat → Prop} {w : World} {a : Option Addr} {n c k : Nat} {l : List Ent} (h : ES K w a n c l) (hk : k ≤ n) : ES K w a k c (l.take k) := ⟨RS_take h.rs hk, by have := h.bd; omega⟩
theorem lslice_h {K : Nat → Prop} {w : World} {a : Option Addr} {n c k : Nat} {l : List Ent} (h : ES K w a n c l) (hk : k ≤ n) (W : World) :
    (Instr.sliceAt 30 (.slice a n c) none (some (.int .i64 (k : Int))) none).run Tryz.prog W = .ok (.slice a k c) W := by
  have hle := h.rs.le
  rw [run_sliceAt_slice _ _ _ _ _ _ lelemE, run_slice_h _ _ a n c lelemE .i64 (k : Int) (by omega) (by omega), lsizeOfE, Result.andThen_ok]
  unfold sliced
  simp only [Int.toNat_natCast, Nat.sub_zero, Nat.zero_mul]
  cases a with
  | none => simp
  | some ad =>
    have : ad.add 0 = ad := by unfold Addr.add; cases ad; simp
    simp [this]

set_option maxRecDepth 100000 in
set_option maxHeartbeats 20000000 in
theorem lwithheld_walk (s : St) (a : Option Addr) (n c : Nat) (ra : Option Addr) (rn rc : Nat) (rs : List Rul) (x1 : Int) (_i1 : I64 x1) (x2 : Int) (_i2 : I64 x2) (f : Int) (hf : I64 f) (w : World) (HT : Tabs w) (S0 : SVr w a n c s) (R0 : RuS w ra rn rc rs) :
    Calls Tryz.prog 6 #[.agg (liC s a n c ra rn rc).toArray, .int .i64 x1, .int .i64 x2, .int .i64 f] w (RetBo true w) := by
  have hrl := R0.len
  have hrm : rn ≤ 9223372036854775807 := Nat.le_trans (RS.le R0) (RS.max R0)
  have HT' := Lib.hid HT; have S0' := Lib.hid S0; have R0' := Lib.hid R0
  clear HT S0 R0
  obtain ⟨sb, hsb⟩ : ∃ sb, Hid (w.heap.size = sb) := ⟨_, rfl⟩
  obtain ⟨W1, hW1⟩ : ∃ W1, Hid (w.alloc (.cells #[.int .i64 s.id, .int .i64 s.priv, .slice a n c, .slice ra rn rc] 27) = W1) := ⟨_, rfl⟩
  have hB1 : Hid (Blk W1 sb 27 (liC s a n c ra rn rc)) := by rw [← hW1.out, ← hsb.out]; exact Blk.new w _ (liC s a n c ra rn rc)
  have hbw : Hid (Below w.heap.size w W1) := by rw [← hW1.out]; exact (Below.refl _ w).alloc (Nat.le_refl _) _
  obtain ⟨X, hX⟩ : ∃ X, Hid (X = RetBo true w) := ⟨_, rfl⟩
  have hfin : Hid (∀ W, Below w.heap.size w W → X (.returned (.bool true)) W) := fun W hb => by rw [hX.out]; exact ⟨rfl, hb⟩
  rw [← hX.out]
  clear hX
  obtain ⟨fq, hfq⟩ : ∃ q, Hid (fewL s rn = q) := ⟨_, rfl⟩
  have hfw := Lib.hid (fun W (hW : Below w.heap.size w W) => few31_any a n c s ra rn rc W (S0'.out.below hW) hrm)
  rw [hfq.out] at hfw
  unfold liC at *
  go_enter Tryz.func6, Tryz.ntmps6
  go_upto_region 1 with fail
  rw [hsb.out]
  generalize hWq : w.alloc _ = Wq
  obtain rfl : W1 = Wq := by rw [← hWq]; exact hW1.out.symm
  clear hWq hW1
  go_wp2_with fail
  refine (sane31_any _ (HT'.out.below hbw.out)).mono ?_
  rintro e w2 ⟨rfl, hst⟩
  replace hB1 := Lib.hid (hB1.out.below hst hB1.out.lt)
  replace hbw := Lib.hid (hbw.out.trans (hst.mono hbw.out.size))
  clear hst
  have l0 := hB1.out.at_ (i := 0) rfl
  have l1 := hB1.out.at_ (i := 1) rfl
  have l2 := hB1.out.at_ (i := 2) rfl
  have l3 := hB1.out.at_ (i := 3) rfl
  go_wp2_with fail
  refine (hfw.out _ hbw.out).mono ?_
  rintro e w3 ⟨rfl, hst⟩
  replace hB1 := Lib.hid (hB1.out.below hst hB1.out.lt)
  replace hbw := Lib.hid (hbw.out.trans (hst.mono hbw.out.size))
  clear hst l0 l1 l2 l3 hfw
  cases fq with
  | false =>
    have hf := Lib.hid (hfin.out _ hbw.out)
    clear hB1 hbw hfq
    go_wp2_with fail
    exact hf.out
  | true =>
    have hfew : few30s s = true ∧ rn ≤ 70 := by
      have := hfq.out
      unfold fewL at this
      simpa using this
    have hsv : Hid (∀ W, Below w.heap.size w W → SV (fun _ => True) W a n c s) := fun W h => (S0'.out.below h).sv hfew.1
    have hrs : Hid (∀ W, Below w.heap.size w W → RuS W ra rn rc rs) := fun W h => R0'.out.below h
    have hbd : Hid (∀ f, BdL 0 (Sto.ents s f)) := fun f => few_bd hfew.1 f
    have hrn : rn ≤ 70 := hfew.2
    clear hfq hfew S0' R0'
    have l0 := hB1.out.at_ (i := 0) rfl
    have l1 := hB1.out.at_ (i := 1) rfl
    have l2 := hB1.out.at_ (i := 2) rfl
    have l3 := hB1.out.at_ (i := 3) rfl
    go_wp2_with fail
    go_loopw [9] (fun i wr => ∃ k : Nat, k ≤ rn ∧ i = .int .i64 k ∧ Hid (∀ r ∈ rs.take k, r.dev ≠ x1 ∧ (r.dev = x2 → r.kind = 1 ∨ r.kind = 6)) ∧ Hid (Below w3.heap.size w3 wr)) (fun i _ => rn - (intOf i).toNat)
    case atStart => exact ⟨0, Nat.zero_le _, rfl, (fun _ h => by cases h), Below.refl _ _⟩
    case round =>
      obtain ⟨k, hk, rfl, hl, hb⟩ := hrel
      clear l0 l1 l2 l3
      have hB1r := Lib.hid (hB1.out.below hb.out hB1.out.lt)
      have hbr := Lib.hid (hbw.out.trans (hb.out.mono hbw.out.size))
      have l3 := hB1r.out.at_ (i := 3) rfl
      by_cases hlt : k < rn
      · have hkl : k < rs.length := by omega
        obtain ⟨x, hx⟩ : ∃ x, rs[k]? = some x := ⟨_, List.getElem?_eq_getElem hkl⟩
        obtain ⟨b, off, rfl, hbl, e0, e1, e2⟩ := (hrs.out _ hbr.out).at hx
        have k0 : (0 : Int) ≤ (k : Int) := by omega
        have k1 : (k : Int) < (rn : Int) := by omega
        have kw : IntKind.i64.wrap ((k : Int) + 1) = (k : Int) + 1 := IntWalk.i64_in _ (by omega)
        have hnx : Hid (x.dev ≠ x1 ∧ (x.dev = x2 → x.kind = 1 ∨ x.kind = 6) → ∀ r ∈ rs.take (k + 1), r.dev ≠ x1 ∧ (r.dev = x2 → r.kind = 1 ∨ r.kind = 6)) := fun h r hr => by
          rw [List.take_succ_eq_append_getElem hkl, (List.getElem?_eq_some_iff.1 hx).2] at hr
          rcases List.mem_append.1 hr with hr | hr
          · exact hl.out r hr
          · rw [List.mem_singleton] at hr; rw [hr]; exact h
        have hbx : Hid (∀ o, Below w.heap.size w (wr.alloc o)) := fun o => hbr.out.alloc hbr.out.size _
        have hbz : Hid (∀ o, Below w3.heap.size w3 (wr.alloc o)) := fun o => hb.out.alloc hb.out.size _
        obtain ⟨dv, kd, nn⟩ := x
        simp only at e0 e1 e2 hnx
        clear hx hl hb hbr hB1r
        by_cases q1 : dv = x1
        · have g1 : (dv == x1) = true := by simpa using q1
          have hf0 := Lib.hid (fun o => hfin.out _ (hbx.out o))
          clear hnx q1
          go_wp2_with fail
          exact hf0.out _
        · have g1 : (dv == x1) = false := by simpa using q1
          by_cases q2 : dv = x2
          · have g2 : (dv == x2) = true := by simpa using q2
            by_cases q3 : kd = 1
            · have g3 : (kd != 1) = false := by simpa using q3
              have hn2 := Lib.hid (hnx.out ⟨q1, fun _ => .inl q3⟩)
              clear hnx q1 q2 q3
              go_wp2_with fail
              go_roundw
              case rel => exact ⟨k + 1, by omega, by go_num, hn2, hbz.out _⟩
              case measure => simp [intOf]; omega
            · have g3 : (kd != 1) = true := by simpa using q3
              by_cases q4 : kd = 6
              · have g4 : (kd != 6) = false := by simpa using q4
                have hn2 := Lib.hid (hnx.out ⟨q1, fun _ => .inr q4⟩)
                clear hnx q1 q2 q3 q4
                go_wp2_with fail
                go_roundw
                case rel => exact ⟨k + 1, by omega, by go_num, hn2, hbz.out _⟩
                case measure => simp [intOf]; omega
              · have g4 : (kd != 6) = true := by simpa using q4
                have hf0 := Lib.hid (fun o => hfin.out _ (hbx.out o))
                clear hnx q1 q2 q3 q4
                go_wp2_with fail
                exact hf0.out _
          · have g2 : (dv == x2) = false := by simpa using q2
            have hn2 := Lib.hid (hnx.out ⟨q1, fun e => absurd e q2⟩)
            clear hnx q1 q2
            go_wp2_with fail
            go_roundw
            case rel => exact ⟨k + 1, by omega, by go_num, hn2, hbz.out _⟩
            case measure => simp [intOf]; omega
      · obtain rfl : k = rn := by omega
        rw [List.take_of_length_le (by omega)] at hl
        have hlw := Lib.hid (Sto.withheld_law (s := s) (f := f) (fun r hr => (hl.out r hr).1) (fun r hr => (hl.out r hr).2))
        replace hbw := hbr
        replace hB1 := hB1r
        clear hbr hB1r hb hl l3
        obtain ⟨h1, ok1, hk1, _⟩ := show_hk (rs := rs) (dev := x1) (hbd.out f)
        obtain ⟨h2, ok2, hk2, _⟩ := show_hk (rs := rs) (dev := x2) (hbd.out f)
        have hle1 := Sto.showL_len (rs := rs) (dev := x1) (hbd.out f)
        have hle2 := Sto.showL_len (rs := rs) (dev := x2) (hbd.out f)
        have ok1' := Lib.hid ok1
        have ok2' := Lib.hid ok2
        have hs1 := Lib.hid (fun W (h : Below w.heap.size w W) => shk_any hk1 hf (HT'.out.below h) (hsv.out _ h) (hrs.out _ h) (hbd.out f))
        have hs2 := Lib.hid (fun W (h : Below w.heap.size w W) => shk_any hk2 hf (HT'.out.below h) (hsv.out _ h) (hrs.out _ h) (hbd.out f))
        have hap := Lib.hid (fun W (h : Below w.heap.size w W) => lapart_any a n c s ra k rc rs x1 x2 f W (HT'.out.below h) (hsv.out _ h) (hrs.out _ h) (hbd.out f))
        clear ok1 ok2 hk1 hk2
        generalize Sto.showL s rs x1 f = p1 at *
        generalize Sto.showL s rs x2 f = p2 at *
        generalize Sto.apartL s rs x1 x2 f = p3 at *
        obtain ⟨L1, q1⟩ := p1
        obtain ⟨L2, q2⟩ := p2
        simp only at hlw hle1 hle2 hs1 hs2
        unfold liC at hap
        have l0 := hB1.out.at_ (i := 0) rfl
        have l1 := hB1.out.at_ (i := 1) rfl
        have l2 := hB1.out.at_ (i := 2) rfl
        have l3 := hB1.out.at_ (i := 3) rfl
        go_wp2_with fail
        refine (hs1.out _ hbw.out).mono ?_
        rintro e w4 ⟨va, vc, rfl, hE, hst⟩
        clear l0 l1 l2 l3
        replace hB1 := Lib.hid (hB1.out.below hst hB1.out.lt)
        replace hbw := Lib.hid (hbw.out.trans (hst.mono hbw.out.size))
        have hE4 : Hid (ES (fun _ => True) w4 va L1.length vc L1) := hE.imp fun _ _ _ => trivial
        clear hst hE
        obtain ⟨v4, hP⟩ : ∃ V, Hid (PutR 36 (w4.alloc (.cells (zeroHd : List Value).toArray 36)) V w4.heap.size 36 (hdC h1)) := put_row (Blk.new w4 36 (zeroHd)) (by rw [hdC_len ok1'.out, zeroHd_len]) (by rw [hdC_len ok1'.out]; exact size37) ((hdC_r ok1'.out).one)
        have hst := below_grown ((Below.refl _ w4).alloc (Nat.le_refl _) _) hP.out.grown (by simp) (Nat.le_refl _)
        replace hB1 := Lib.hid (hB1.out.below hst hB1.out.lt)
        replace hE4 := Lib.hid (hE4.out.below hst)
        replace hbw := Lib.hid (hbw.out.trans (hst.mono hbw.out.size))
        clear hst
        have hH4 := Lib.hid hP.out.blk
        clear hH4
        have l0 := hB1.out.at_ (i := 0) rfl
        have l1 := hB1.out.at_ (i := 1) rfl
        have l2 := hB1.out.at_ (i := 2) rfl
        have l3 := hB1.out.at_ (i := 3) rfl
        go_wp2_with (first
          | (refine wpList_store_mid (by rfl) 36 (.tmp 12) (.tmp 62) (by rfl) w4.heap.size 0 (hdC h1).toArray (by rfl) (by rfl) hP.out.there hP.out.info (by simpa using hP.out.one) ?_
             generalize hWq : World.setCells _ _ _ _ = Wa
             obtain rfl : v4 = Wa := by rw [← hWq]; exact hP.out.eq
             clear hWq))
        clear hP
        refine (hs2.out _ hbw.out).mono ?_
        rintro e w5 ⟨vb, vd, rfl, hE, hst⟩
        clear l0 l1 l2 l3
        replace hB1 := Lib.hid (hB1.out.below hst hB1.out.lt)
        replace hE4 := Lib.hid (hE4.out.below hst)
        replace hbw := Lib.hid (hbw.out.trans (hst.mono hbw.out.size))
        have hE5 : Hid (ES (fun _ => True) w5 vb L2.length vd L2) := hE.imp fun _ _ _ => trivial
        clear hst hE
        obtain ⟨v5, hP⟩ : ∃ V, Hid (PutR 36 (w5.alloc (.cells (zeroHd : List Value).toArray 36)) V w5.heap.size 36 (hdC h2)) := put_row (Blk.new w5 36 (zeroHd)) (by rw [hdC_len ok2'.out, zeroHd_len]) (by rw [hdC_len ok2'.out]; exact size37) ((hdC_r ok2'.out).one)
        have hst := below_grown ((Below.refl _ w5).alloc (Nat.le_refl _) _) hP.out.grown (by simp) (Nat.le_refl _)
        replace hB1 := Lib.hid (hB1.out.below hst hB1.out.lt)
        replace hE4 := Lib.hid (hE4.out.below hst)
        replace hE5 := Lib.hid (hE5.out.below hst)
        replace hbw := Lib.hid (hbw.out.trans (hst.mono hbw.out.size))
        clear hst
        have hH5 := Lib.hid hP.out.blk
        clear hH5
        have l0 := hB1.out.at_ (i := 0) rfl
        have l1 := hB1.out.at_ (i := 1) rfl
        have l2 := hB1.out.at_ (i := 2) rfl
        have l3 := hB1.out.at_ (i := 3) rfl
        by_cases z1 : q1 = 0
        · by_cases z2 : q2 = 0
          · subst z1
            subst z2
            obtain ⟨y1, y2, y3⟩ := hlw.out rfl rfl
            subst y3
            clear hlw
            go_wp2_with (first
              | (refine wpList_store_mid (by rfl) 36 (.tmp 15) (.tmp 70) (by rfl) w5.heap.size 0 (hdC h2).toArray (by rfl) (by rfl) hP.out.there hP.out.info (by simpa using hP.out.one) ?_
                 generalize hWq : World.setCells _ _ _ _ = Wa
                 obtain rfl : v5 = Wa := by rw [← hWq]; exact hP.out.eq
                 clear hWq))
            clear hP l0 l1 l2 l3
            refine (hap.out _ hbw.out).mono ?_
            rintro e w6 ⟨rfl, hst⟩
            replace hE4 := Lib.hid (hE4.out.below hst)
            replace hE5 := Lib.hid (hE5.out.below hst)
            replace hbw := Lib.hid (hbw.out.trans (hst.mono hbw.out.size))
            clear hst hap hB1
            have hsl := lslice_h hE4.out y1
            have hg : decide ((L2.length : Int) ≤ (L1.length : Int)) = true := decide_eq_true (by omega)
            have hE7 := ltakeE hE4.out y1
            rw [y2] at hE7
            have hsm := Lib.hid (sameE_any (fun _ => True) (fun _ => True) vb va L2.length vd vc L2 w6 hE5.out hE7)
            clear hE7 y2
            go_wp2_with fail
            refine hsm.out.mono ?_
            rintro e w7 ⟨rfl, m, rfl⟩
            have hf0 := Lib.hid (hfin.out _ (hbw.out.trans ((below_drewQ (Below.refl _ w6) m).mono hbw.out.size)))
            go_wp2_with fail
            exact hf0.out
          · have zq : (q2 != 0) = true := by simpa using z2
            have hf0 := Lib.hid (hfin.out _ hbw.out)
            subst z1
            clear hlw z2
            go_wp2_with (first
              | (refine wpList_store_mid (by rfl) 36 (.tmp 15) (.tmp 70) (by rfl) w5.heap.size 0 (hdC h2).toArray (by rfl) (by rfl) hP.out.there hP.out.info (by simpa using hP.out.one) ?_
                 generalize hWq : World.setCells _ _ _ _ = Wa
                 obtain rfl : v5 = Wa := by rw [← hWq]; exact hP.out.eq
                 clear hWq))
            exact hf0.out
        · have zq : (q1 != 0) = true := by simpa using z1
          have hf0 := Lib.hid (hfin.out _ hbw.out)
          clear hlw z1
          go_wp2_with (first
            | (refine wpList_store_mid (by rfl) 36 (.tmp 15) (.tmp 70) (by rfl) w5.heap.size 0 (hdC h2).toArray (by rfl) (by rfl) hP.out.there hP.out.info (by simpa using hP.out.one) ?_
               generalize hWq : World.setCells _ _ _ _ = Wa
               obtain rfl : v5 = Wa := by rw [← hWq]; exact hP.out.eq
               clear hWq))
          exact hf0.out
end Go.Proofs.YtiionehcmoginaaGreatDoor
namespace Go.Proofs.YtiionehcmoginaaGreatDoor.lawLWithheld
open Go.ChangeShapes Go.WideShapes Go.ChangeAt Go.RowKit Go.Mem
open Go.Proofs.YtiionehcmoginaaGreatDoor

set_option maxRecDepth 100000 in
theorem lifted (os : Os) (started : os.Started) (H : Type) (enc : TypeId × Value → H) :
    ReturnsInHanded {} Tryz.checked os 6 .any (fun w args => (Rows.liarWithheldSpec.pre enc Tryz.prog Tryz.f6 [] false w args ∧ laidMetH Tryz.prog laid2 w) ∧ sizedMet enc Tryz.prog Tryz.f6 (OpenSpec.ofChange Rows.liarWithheldSpec) false w args)
      (Rows.liarWithheldSpec.post enc Tryz.prog Tryz.f6 false true false false) := by
  refine returnsInHanded_of_change_and (C := Tryz.checked) (X := fun w _ => laidMetH Tryz.prog laid2 w) (fun _ _ _ hh h => h.of_heap hh) own started (by kernel_rfl) Tryz.func6
    (ChangeSpec.witness_shaped (enc := enc) (C := Tryz.checked) (os := os) (X := fun w _ => laidMetH Tryz.prog laid2 w) false (World.doorLaid Tryz.prog 400 os) #[.agg (liC ⟨0, 0, []⟩ none 0 0 none 0 0).toArray, .int .i64 0, .int .i64 0, .int .i64 0] 8 rfl (World.shaped_of_RefB (by kernel_rfl) (by kernel_rfl)) (by kernel_rfl) (by kernel_rfl) (by kernel_rfl) (door_met os _)) ?_
  intro W base args ds gs before hval0 hW _ hwt hL _
  have hval : ∀ (j : Nat) t v, Tryz.f6.params[j]? = some t → args[j]? = some v → Value.okWide Tryz.prog W .any base t v := hval0
  have hW' := hW
  obtain ⟨p, q, hA0, hV, rfl, hfz, hnd⟩ := hW
  have hA : DataW.TrodAll enc Tryz.prog W 0 (fun _ => true) true Tryz.f6.params.toList args.toList ds p := hA0
  rw [Tryz.params6] at hA hval
  obtain ⟨v0, vs0, d0, ds0, p0, q0, hargs, rfl, rfl, h0, r0⟩ := trodAll_cons hA
  obtain ⟨v1, vs1, d1, ds1, p1, q1, rfl, rfl, rfl, h1, r1⟩ := trodAll_cons r0
  obtain ⟨v2, vs2, d2, ds2, p2, q2, rfl, rfl, rfl, h2, r2⟩ := trodAll_cons r1
  obtain ⟨v3, vs3, d3, ds3, p3, q3, rfl, rfl, rfl, h3, r3⟩ := trodAll_cons r2
  obtain ⟨rfl, rfl, rfl⟩ := trodAll_nil r3
  obtain rfl : args = #[v0, v1, v2, v3] := by cases args; simp_all
  obtain ⟨rfl, rfl⟩ := trodVars_none hV
  have lt0 : ∀ x ∈ p0, x.block < W.heap.size := by obtain ⟨m, hm⟩ := h0; exact DataW.trod_lt m _ _ _ hm
  have lt1 : ∀ x ∈ p1, x.block < W.heap.size := by obtain ⟨m, hm⟩ := h1; exact DataW.trod_lt m _ _ _ hm
  have lt2 : ∀ x ∈ p2, x.block < W.heap.size := by obtain ⟨m, hm⟩ := h2; exact DataW.trod_lt m _ _ _ hm
  have lt3 : ∀ x ∈ p3, x.block < W.heap.size := by obtain ⟨m, hm⟩ := h3; exact DataW.trod_lt m _ _ _ hm
  have k0' := h0
  have k1' := h1
  have k2' := h2
  have k3' := h3
  obtain ⟨cs0, rfl, _⟩ := okWide_struct Tryz.underlying27 (hval 0 27 v0 rfl rfl)
  obtain ⟨m0, hm0⟩ := h0
  obtain ⟨s0, a0, n0, c0, ra0, rn0, rc0, rs0, e0, S0, R0⟩ := open_liar (cs := cs0.toList) (by simpa [Value.cells] using hm0)
  obtain rfl : cs0 = (liC s0 a0 n0 c0 ra0 rn0 rc0).toArray := by rw [← e0]
  clear hm0 e0
  obtain ⟨x1, rfl⟩ := okWide_int Tryz.underlying3 (hval 1 3 v1 rfl rfl)
  obtain ⟨m1, hm1⟩ := h1
  obtain ⟨x1', e1, i1⟩ := open_int1 (cs := [.int .i64 x1]) (by simpa [Value.cells] using hm1)
  obtain rfl : x1 = x1' := by simpa using e1
  clear hm1 e1
  obtain ⟨x2, rfl⟩ := okWide_int Tryz.underlying3 (hval 2 3 v2 rfl rfl)
  obtain ⟨m2, hm2⟩ := h2
  obtain ⟨x2', e2, i2⟩ := open_int1 (cs := [.int .i64 x2]) (by simpa [Value.cells] using hm2)
  obtain rfl : x2 = x2' := by simpa using e2
  clear hm2 e2
  obtain ⟨x3, rfl⟩ := okWide_int Tryz.underlying3 (hval 3 3 v3 rfl rfl)
  obtain ⟨m3, hm3⟩ := h3
  obtain ⟨x3', e3, i3⟩ := open_int1 (cs := [.int .i64 x3]) (by simpa [Value.cells] using hm3)
  obtain rfl : x3 = x3' := by simpa using e3
  clear hm3 e3
  have hT := tabs_of_laid hL
  clear hA0 hval0
  refine (lwithheld_walk s0 a0 n0 c0 ra0 rn0 rc0 rs0 x1 i1 x2 i2 x3 i3 W hT S0 R0).mono fun e W' ⟨he, bel⟩ => ?_
  subst he
  exact ⟨_, rfl, _, _, _, [], _, [], hW', trodAll_mk1 (shut_bool Tryz.underlying4 _),
    (trodAll_cons_mk (Below.trod laidOut (by kernel_rfl) (of_decide_eq_true (by kernel_rfl)) k0' bel lt0) (trodAll_cons_mk (Below.trod laidOut (by kernel_rfl) (of_decide_eq_true (by kernel_rfl)) k1' bel lt1) (trodAll_cons_mk (Below.trod laidOut (by kernel_rfl) (of_decide_eq_true (by kernel_rfl)) k2' bel lt2) (trodAll_cons_mk (Below.trod laidOut (by kernel_rfl) (of_decide_eq_true (by kernel_rfl)) k3' bel lt3) trodAll_mk0)))), rfl, bel.frame _, fun h => by cases h⟩

theorem over : Rows.LiarWithheldSaid :=
  OpenClaim.holds_of_wide 6 Tryz.f6 rfl rfl rfl rfl rfl rfl rfl ⟨rfl, rfl, rfl, rfl, rfl⟩ rfl rfl rfl rfl rfl (by kernel_rfl) Tryz.func6 (by kernel_rfl)
    (of_decide_eq_true (by kernel_rfl)) (by unfold Func.isWrapper; first | (rw [if_pos (by decide +kernel)]; kernel_rfl) | (rw [if_neg (by decide +kernel)]; exact ⟨rfl, rfl⟩))
    (fun os started H enc _ => lifted os started H enc)

theorem proved : Rows.LiarWithheldCardSaid :=
  Claim7.holds_tied_plain_at .later [] [.data, .data] true (true, "61e2f70981a8c0bfaff58b11096e9b014427882e52d813c9818ce2f80f8e3bab") false
    over (fun _ h => by cases h) (by kernel_rfl) (fun _ h => by cases h) liarWithheld_row_tie rfl ⟨rfl, rfl⟩ (by kernel_rfl) rfl
    (fun f fn hf hfn => by
      obtain rfl : f = 6 := Option.some.inj ((show Tryz.prog.funcNamed "chartroom/chartroomlaw31.LiarWithheld" = some 6 by kernel_rfl).symm.trans hf) |>.symm
      obtain rfl : fn = Tryz.f6 := (Option.some.inj (Tryz.func6.symm.trans hfn)).symm
      exact ⟨by kernel_rfl, fun j t ht => by
        rw [Tryz.params6] at ht
        have hm : t ∈ [27, 3, 3, 3] := by simpa using Array.mem_of_getElem? ht
        have hall : ([27, 3, 3, 3].all fun u => !Tryz.prog.wantsStandIn u) = true := by kernel_rfl
        exact (show Tryz.prog.wantsStandIn t = false by simpa using List.all_eq_true.1 hall t hm)⟩)
    (by kernel_rfl)
#print axioms proved
end Go.Proofs.YtiionehcmoginaaGreatDoor.lawLWithheld

