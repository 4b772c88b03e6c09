/- the reference 31: Check the reference 31: lie -/
import Derived.Test.YtnonfdcbnkdmcaaGreatDoorAl
import Derived.Test.YtnonfdcbnkdmcaaGreatDoorLiB
import Derived.Test.YtnonfdcbnkdmcaaGreatDoorRsD
namespace Go.Proofs.YtnonfdcbnkdmcaaGreatDoor
open Go.RowKit Go.Mem Go.Shelf
open Go.Sto (Ent St Rul)

set_option maxRecDepth 20000 in
set_option maxHeartbeats 4000000 in
theorem r31check_any (a : Option Addr) (n c : Nat) (s : St) (ra : Option Addr) (rn rc : Nat) (rs : List Rul) (w : World) (H : SV (fun _ => True) w a n c s) (HR : RuS w ra rn rc rs) :
 Calls Tryz.prog 13 #[.agg (liC s a n c ra rn rc).toArray] w (RetI (Sto.chkL s rs) w) := by
 have hlen := HR.len
 have hmx := RS.max HR
 have hle := RS.le HR
 have H' := Lib.hid H; have HR' := Lib.hid HR
 clear H HR
 obtain ⟨sb, hsb⟩ : ∃ sb, Hid (w.heap.size = sb) := ⟨_, rfl⟩
 have hB1 : Hid (Blk (w.alloc (.cells #[.int .i64 s.id, .int .i64 s.priv, .slice a n c, .slice ra rn rc] 27)) sb 27 (liC s a n c ra rn rc)) := by rw [← hsb.out]; exact Blk.new w _ (liC s a n c ra rn rc)
 have hb1 : Hid (Below w.heap.size w (w.alloc (.cells #[.int .i64 s.id, .int .i64 s.priv, .slice a n c, .slice ra rn rc] 27))) := (Below.refl _ w).alloc (Nat.le_refl _) _
 have hc := Lib.hid (fun W (hW : Below w.heap.size w W) => r30check_any (fun _ => True) a n c s W (H'.out.below hW))
 have n63 : (rn : Int) ≤ 9223372036854775807 := by omega
 unfold liC
 rcases Sto.chkS_cases s with hs | hs
 · have hX : Hid (Sto.chkL s rs = if rs.length ≤ 64 then Sto.chkR rs else 2) := by show _ = _; unfold Sto.chkL; rw [if_pos hs]
   rw [hs] at hc
   obtain ⟨X, hXX⟩ : ∃ X, Hid (X = RetI (Sto.chkL s rs) w) := ⟨_, rfl⟩
   rw [← hXX.out]
   have hret : Hid (∀ W q, Below w.heap.size w W → q = Sto.chkL s rs → X (.returned (.int .i64 q)) W) := fun W q h e => by rw [hXX.out, e]; exact ⟨rfl, h⟩
   clear hs hXX
   by_cases hr64 : rn ≤ 64
   · have g64 : decide ((64 : Int) < (rn : Int)) = false := decide_eq_false (by omega)
     have hX2 : Hid (Sto.chkL s rs = Sto.chkR rs) := by show _ = _; rw [hX.out, if_pos (by omega)]
     clear hX
     go_enter Tryz.func13, Tryz.ntmps13
     go_wp2_with fail
     rw [hsb.out]
     generalize World.alloc w _ = W1 at *
     have c0 := hB1.out.at_ (i := 0) rfl
     have c1 := hB1.out.at_ (i := 1) rfl
     have c2 := hB1.out.at_ (i := 2) rfl
     go_wp2_with fail
     refine (hc.out _ hb1.out).mono ?_
     rintro e w2 ⟨rfl, hb2⟩
     have hB2' := Lib.hid (hB1.out.below hb2 hB1.out.lt)
     have hb2' := Lib.hid (hb1.out.trans (hb2.mono hb1.out.size))
     have d3 := hB2'.out.at_ (i := 3) rfl
     have hR2 := Lib.hid (HR'.out.below hb2'.out)
     clear hb2 hb1 hB1 hc c0 c1 c2
     go_wp2_with fail
     go_loopw [4] (fun i wr => ∃ k : Nat, k ≤ rn ∧ i = .int .i64 k ∧ Hid (Sto.chkR rs = Sto.chkR (rs.drop k)) ∧ Hid (Below w2.heap.size w2 wr)) (fun i _ => rn - (intOf i).toNat)
     case atStart => exact ⟨0, Nat.zero_le _, rfl, rfl, Below.refl _ _⟩
     case round =>
      obtain ⟨k, hk, rfl, hl, hb⟩ := hrel
      clear d3
      have d3 := (hB2'.out.below hb.out hB2'.out.lt).at_ (i := 3) rfl
      have hbw := Lib.hid (hb2'.out.trans (hb.out.mono hb2'.out.size))
      by_cases hlt : k < rn
      · have hkl : k < rs.length := by omega
        obtain ⟨x, hx⟩ : ∃ x, rs[k]? = some x := ⟨_, List.getElem?_eq_getElem hkl⟩
        have hl' := hl.out
        rw [List.drop_eq_getElem_cons hkl, (List.getElem?_eq_some_iff.1 hx).2, Sto.chkR_cons] at hl'
        obtain ⟨b, off, rfl, hbl, e0, e1, e2⟩ := (hR2.out.below hb.out).at hx
        have hl2 := Lib.hid hl'
        have k0 : (0 : Int) ≤ (k : Int) := by omega
        have k1 : (k : Int) < (rn : Int) := by omega
        clear hl hl' hx
        obtain ⟨dv, kd, nn⟩ := x
        simp only at e0 e1 e2
        have hbad : Hid (dv < 0 ∨ 512 ≤ dv ∨ kd < 1 ∨ 6 < kd ∨ nn < 0 ∨ 65536 < nn → ∀ W, Below w.heap.size w W → X (.returned (.int .i64 310)) W) := fun h W hW => hret.out W _ hW (by
         rw [hX2.out, hl2.out, okRul_bad h]; rfl)
        have hbx : Hid (∀ o, Below w.heap.size w (wr.alloc o)) := fun o => hbw.out.alloc hbw.out.size _
        by_cases q1 : dv < 0
        · have g1 : decide (dv < 0) = true := decide_eq_true q1
          have hbad2 := Lib.hid (hbad.out (.inl q1))
          clear hbad
          go_wp2_with fail
          exact hbad2.out _ (hbx.out _)
        have g1 : decide (dv < 0) = false := decide_eq_false q1
        by_cases q2 : 512 ≤ dv
        · have g2 : decide (512 ≤ dv) = true := decide_eq_true q2
          have hbad2 := Lib.hid (hbad.out (.inr (.inl q2)))
          clear hbad
          go_wp2_with fail
          exact hbad2.out _ (hbx.out _)
        have g2 : decide (512 ≤ dv) = false := decide_eq_false q2
        by_cases q3 : kd < 1
        · have g3 : decide (kd < 1) = true := decide_eq_true q3
          have hbad2 := Lib.hid (hbad.out (.inr (.inr (.inl q3))))
          clear hbad
          go_wp2_with fail
          exact hbad2.out _ (hbx.out _)
        have g3 : decide (kd < 1) = false := decide_eq_false q3
        by_cases q4 : 6 < kd
        · have g4 : decide (6 < kd) = true := decide_eq_true q4
          have hbad2 := Lib.hid (hbad.out (.inr (.inr (.inr (.inl q4)))))
          clear hbad
          go_wp2_with fail
          exact hbad2.out _ (hbx.out _)
        have g4 : decide (6 < kd) = false := decide_eq_false q4
        by_cases q5 : nn < 0
        · have g5 : decide (nn < 0) = true := decide_eq_true q5
          have hbad2 := Lib.hid (hbad.out (.inr (.inr (.inr (.inr (.inl q5))))))
          clear hbad
          go_wp2_with fail
          exact hbad2.out _ (hbx.out _)
        have g5 : decide (nn < 0) = false := decide_eq_false q5
        by_cases q6 : 65536 < nn
        · have g6 : decide (65536 < nn) = true := decide_eq_true q6
          have hbad2 := Lib.hid (hbad.out (.inr (.inr (.inr (.inr (.inr q6))))))
          clear hbad
          go_wp2_with fail
          exact hbad2.out _ (hbx.out _)
        have g6 : decide (65536 < nn) = false := decide_eq_false q6
        have hg : Hid (Sto.chkR rs = Sto.chkR (rs.drop (k + 1))) := by
         show _ = _
         rw [hl2.out, if_pos ((Sto.okRul_iff _).2 ⟨by show 0 ≤ dv; omega, by show dv < 512; omega, by show 1 ≤ kd; omega, by show kd ≤ 6; omega, by show 0 ≤ nn; omega, by show nn ≤ 65536; omega⟩)]
        have hbz : Hid (∀ o, Below w2.heap.size w2 (wr.alloc o)) := fun o => hb.out.alloc hb.out.size _
        have kw : IntKind.i64.wrap ((k : Int) + 1) = (k : Int) + 1 := IntWalk.i64_in _ (by omega)
        clear hbad hl2
        go_wp2_with fail
        go_roundw
        case rel => exact ⟨k + 1, by omega, by go_num, hg, hbz.out _⟩
        case measure => simp [intOf]; omega
      · have hkn : k = rn := by omega
        subst hkn
        have hfin : Hid (∀ W, Below w.heap.size w W → X (.returned (.int .i64 0)) W) := fun W hW => hret.out W 0 hW (by rw [hX2.out, hl.out, List.drop_eq_nil_of_le (by omega)]; rfl)
        go_wp2_with fail
        exact hfin.out _ hbw.out
   · have g64 : decide ((64 : Int) < (rn : Int)) = true := decide_eq_true (by omega)
     have hX2 : Hid (Sto.chkL s rs = 2) := by show _ = _; rw [hX.out, if_neg (by omega)]
     have hfin : Hid (∀ W, Below w.heap.size w W → X (.returned (.int .i64 2)) W) := fun W hW => hret.out W 2 hW hX2.out.symm
     clear hX hX2
     go_enter Tryz.func13, Tryz.ntmps13
     go_wp2_with fail
     rw [hsb.out]
     generalize World.alloc w _ = W1 at *
     have c0 := hB1.out.at_ (i := 0) rfl
     have c1 := hB1.out.at_ (i := 1) rfl
     have c2 := hB1.out.at_ (i := 2) rfl
     go_wp2_with fail
     refine (hc.out _ hb1.out).mono ?_
     rintro e w2 ⟨rfl, hb2⟩
     have hB2' := Lib.hid (hB1.out.below hb2 hB1.out.lt)
     have hb2' := Lib.hid (hb1.out.trans (hb2.mono hb1.out.size))
     have d3 := hB2'.out.at_ (i := 3) rfl
     clear hb2 hb1 hB1 hc c0 c1 c2
     go_wp2_with fail
     exact hfin.out _ hb2'.out
 · have hX : Hid (Sto.chkL s rs = 300) := by show _ = _; unfold Sto.chkL; rw [if_neg (by omega)]
   rw [hs] at hc
   obtain ⟨X, hXX⟩ : ∃ X, Hid (X = RetI (Sto.chkL s rs) w) := ⟨_, rfl⟩
   rw [← hXX.out]
   have hfin : Hid (∀ W, Below w.heap.size w W → X (.returned (.int .i64 300)) W) := fun W h => by rw [hXX.out, hX.out]; exact ⟨rfl, h⟩
   clear hs hXX hX
   go_enter Tryz.func13, Tryz.ntmps13
   go_wp2_with fail
   rw [hsb.out]
   generalize World.alloc w _ = W1 at *
   have c0 := hB1.out.at_ (i := 0) rfl
   have c1 := hB1.out.at_ (i := 1) rfl
   have c2 := hB1.out.at_ (i := 2) rfl
   go_wp2_with fail
   refine (hc.out _ hb1.out).mono ?_
   rintro e w2 ⟨rfl, hb2⟩
   have hb2' := Lib.hid (hb1.out.trans (hb2.mono hb1.out.size))
   clear hb2 hb1 hB1 hc c0 c1 c2
   go_wp2_with fail
   exact hfin.out _ hb2'.out
end Go.Proofs.YtnonfdcbnkdmcaaGreatDoor
namespace Go.Proofs.YtnonfdcbnkdmcaaGreatDoor
open Go.RowKit Go.Mem Go.Shelf
open Go.Sto (Ent St Rul forkE lieAt)

def LieR (L : List Ent) (w : World) (e : Ending) (w' : World) : Prop := ∃ a c, e = .returned (.slice a L.length c) ∧ ES (fun _ => True) w' a L.length c L ∧ Below w.heap.size w w'
theorem OwnR.toL {D B : Nat} {W : World} {v : Value} {l : List Ent} (h : OwnR D B W v l) (hDB : D ≤ B) : OwnL 0 W v l ∧ ∀ b, v.ownBlock = some b → B ≤ b := by
 obtain ⟨rows, h1, h2⟩ := h
 have hlo : ∀ b, v.ownBlock = some b → B ≤ b := fun b e => (World.ownsRow.lt h1 b e).1
 exact ⟨⟨rows, ownsRow_mono h1 (Nat.zero_le _), h2.imp fun _ _ h => h.imp fun b _ hb => ⟨Nat.zero_le _, fun e => by have := hlo b e; omega⟩⟩, hlo⟩
theorem OwnL.cuts {B : Nat} {W : World} {v : Value} {l : List Ent} (h : OwnL B W v l) : ∃ a c, v = .slice a l.length c ∧ ∀ m, m ≤ l.length → ∃ aH, (∀ W2, (Instr.sliceAt 30 (.slice a l.length c) (some (.int .i64 (m : Int))) none none).run Tryz.prog W2 = .ok (.slice aH (l.length - m) (c - m)) W2) ∧ (aH = none → l.length - m = 0) ∧ ∃ rows, RowsOf 35 (EV (fun b => B ≤ b ∧ v.ownBlock ≠ some b) W) (l.drop m) rows ∧ ∀ b, aH = some b → ∀ j u, rows.flatten[j]? = some u → b.block < W.heap.size ∧ W.cell? (b.add j) = some u := by
 obtain ⟨rows, hown, hR⟩ := h
 have hfl := hR.flat
 have hfd : ∀ m, (rows.drop m).flatten = rows.flatten.drop (m * 35) := fun m => by first | exact flat_drop m hR.size | exact (flat_drop m hR.size).symm
 obtain ⟨a, c, hv, hr, _⟩ := Sl.of_owns hown
 have hle := hr.le
 subst hv
 refine ⟨a, c, rfl, fun m hm => ⟨if c = m then a else a.map (·.add (m * 35)), fun W2 => ?_, fun e => ?_, rows.drop m, hR.drop m, fun b e j u hu => ?_⟩⟩
 · rw [run_sliceAt_slice _ _ _ _ _ _ elemE', run_slice_l _ _ a l.length c elemE' .i64 (m : Int) (by omega) (by omega), sizeOfE', Result.andThen_ok]
   unfold sliced
   rw [Int.toNat_natCast]
 · cases a with
   | none => have := hr.nil rfl; omega
   | some ad => split at e <;> cases e
 · rw [hfd, List.getElem?_drop] at hu
   have hj := (List.getElem?_eq_some_iff.1 hu).1
   have hcm : c ≠ m := by omega
   rw [if_neg hcm] at e
   cases a with
   | none => cases e
   | some ad =>
    have h2 := hr.news (m * 35 + j) u hu
    simp only [Option.map_some, Option.some.injEq] at e
    subst e
    obtain ⟨b0, off, e2, hbl, _⟩ := hr.cells (by omega)
    cases e2
    rw [Addr.add_lit] at h2
    rw [Addr.add_lit, Addr.add_lit, Nat.add_assoc]
    exact ⟨hbl, h2⟩
theorem OwnL.whole {B : Nat} {W : World} {v : Value} {l : List Ent} (h : OwnL B W v l) : ∃ a c rows, v = .slice a l.length c ∧ (a = none → l.length = 0) ∧ RowsOf 35 (EV (fun b => B ≤ b ∧ v.ownBlock ≠ some b) W) l rows ∧ ∀ b, a = some b → ∀ j u, rows.flatten[j]? = some u → b.block < W.heap.size ∧ W.cell? (b.add j) = some u := by
 obtain ⟨rows, hown, hR⟩ := h
 obtain ⟨a, c, hv, hr, _⟩ := Sl.of_owns hown
 refine ⟨a, c, rows, hv, fun e => (hr.nil e).1, hR, fun b e j u hu => ?_⟩
 subst e
 have hj := (List.getElem?_eq_some_iff.1 hu).1
 have hfl := hR.flat
 obtain ⟨b0, off, e2, hbl, _⟩ := hr.cells (by omega)
 cases e2
 exact ⟨hbl, hr.news j u hu⟩
structure SrcE (D : Nat) (W : World) (a : Option Addr) (l : List Ent) (rows : List (List Value)) : Prop where
 R : RowsOf 35 (EV (fun b => b < D) W) l rows
 cells : ∀ b, a = some b → ∀ j u, rows.flatten[j]? = some u → b.block < D ∧ W.cell? (b.add j) = some u
theorem SrcE.of {W : World} {B : Nat} {v : Value} {a : Option Addr} {l : List Ent} {rows : List (List Value)} (hR : RowsOf 35 (EV (fun b => B ≤ b ∧ v.ownBlock ≠ some b) W) l rows) (hc : ∀ b, a = some b → ∀ j u, rows.flatten[j]? = some u → b.block < W.heap.size ∧ W.cell? (b.add j) = some u) : SrcE W.heap.size W a l rows :=
 ⟨hR.imp fun _ _ h => h.imp fun _ hb _ => hb, hc⟩
theorem SrcE.below {D : Nat} {W W' : World} {a : Option Addr} {l : List Ent} {rows : List (List Value)} (h : SrcE D W a l rows) (hb : Below D W W') : SrcE D W' a l rows :=
 ⟨h.R.imp fun _ _ h => h.keep ⟨hb.size, fun b _ k => hb.block b k⟩, fun b e j u hu => by
  obtain ⟨h1, h2⟩ := h.cells b e j u hu
  exact ⟨h1, (hb.cell (p := b.add j) (by unfold Addr.add; split <;> exact h1)).trans h2⟩⟩
theorem SrcE.take {D : Nat} {W : World} {a : Option Addr} {l : List Ent} {rows : List (List Value)} (h : SrcE D W a l rows) (m : Nat) : SrcE D W a (l.take m) (rows.take m) :=
 ⟨h.R.take m, fun b e j u hu => h.cells b e j u (by
  have h1 : rows.flatten = (rows.take m).flatten ++ (rows.drop m).flatten := by rw [← List.flatten_append, List.take_append_drop]
  rw [h1, List.getElem?_append_left (List.getElem?_eq_some_iff.1 hu).1]
  exact hu)⟩
theorem append_el {W : World} {B : Nat} {v : Value} {l m : List Ent} {a : Option Addr} {n c : Nat} {rows : List (List Value)} (ho : OwnL B W v l) (hR : RowsOf 35 (EV (fun b => B ≤ b ∧ v.ownBlock ≠ some b) W) m rows) (hc : ∀ b, a = some b → ∀ j u, rows.flatten[j]? = some u → W.cell? (b.add j) = some u) (hnil : a = none → n = 0) (hlen : m.length = n) (hn : l.length + n ≤ 100000) (hB : B ≤ W.heap.size) :
 ∃ v' W', (∀ ty, (Builtin.append_ #[30, 30] ty #[v, .slice a n c]).run Tryz.prog W = .ok v' W') ∧ OwnL B W' v' (l ++ m) ∧ W.grownBy W' v.ownBlock ∧ Nxt v v' W := by
 obtain ⟨i0, hi, ⟨z, hz0, hzs⟩, hz1, hz2⟩ := info_partsEV
 obtain ⟨rl, hown, hRl⟩ := ho
 match a with
 | none =>
  obtain rfl := hnil rfl
  obtain rfl : m = [] := List.eq_nil_of_length_eq_zero hlen
  refine ⟨v, W, fun ty => ?_, by rw [List.append_nil]; exact ⟨rl, hown, hRl⟩, World.grownBy.refl W _, .inl rfl⟩
  rcases hown.2 with ⟨rfl, _⟩ | ⟨g, cap, cur, rfl, _, _, hnc, _, _, _⟩
  · simp [Builtin.append_, run_underlying Tryz.underlying30, sizeOf, typeInfo, hi, Builtin.lenOf, Builtin.firstCells]
  · simp [Builtin.append_, run_underlying Tryz.underlying30, sizeOf, typeInfo, hi, Builtin.lenOf, Builtin.firstCells, storeCells, hnc]
 | some ad =>
  obtain ⟨v', w', hrun, h2, h3, _, h5⟩ := run_append_own_at (P := Tryz.prog) (w := W) B 30 0 75 i0 z 35 72 Tryz.underlying30 hi hz0 hz1 hz2 hzs (by omega) v l.length rl.flatten hown ad n c rows.flatten (by rw [hR.flat, hlen]) (hc ad rfl) (rows_one hR fun _ _ h => EV.one h) (by unfold maxLen; omega) (by omega) hB
  have hx : Nxt v v' W := h5.imp id fun e => .inr ⟨_, e, Nat.le_refl _⟩
  refine ⟨v', w', fun ty => by rw [← hrun]; rfl, ⟨rl ++ rows, ?_, (RowsOf.evs hRl h3 hx).append (RowsOf.evs hR h3 hx)⟩, h3, hx⟩
  rw [List.length_append, List.flatten_append, hlen]
  exact h2
theorem append_src {W : World} {D : Nat} {v : Value} {l m : List Ent} {a : Option Addr} {n c : Nat} {rows : List (List Value)} (ho : OwnL 0 W v l) (hs : SrcE D W a m rows) (hlo : ∀ b, v.ownBlock = some b → D ≤ b) (hnil : a = none → n = 0) (hlen : m.length = n) (hn : l.length + n ≤ 100000) :
 ∃ v' W', (∀ ty, (Builtin.append_ #[30, 30] ty #[v, .slice a n c]).run Tryz.prog W = .ok v' W') ∧ OwnL 0 W' v' (l ++ m) ∧ W.grownBy W' v.ownBlock ∧ Nxt v v' W :=
 append_el ho (hs.R.imp fun _ _ h => h.imp fun b _ hb => ⟨Nat.zero_le _, fun e => by have := hlo b e; omega⟩) (fun b e j u hu => (hs.cells b e j u hu).2) hnil hlen hn (Nat.zero_le _)
theorem ownL_new (W : World) : OwnL 0 (W.alloc (.cells #[] 75)) (.slice (some ⟨W.heap.size, 0, none⟩) 0 0) [] :=
 ⟨[], ⟨rfl, Or.inr ⟨W.heap.size, 0, #[], rfl, Nat.zero_le _, heap_alloc_new W _, Nat.le_refl _, by unfold maxLen; omega, rfl, rfl⟩⟩, RowsOf.nil⟩
theorem esl_h (x : Option Addr) (n cx m : Nat) (hm : m ≤ cx) (W : World) : (Instr.sliceAt 30 (.slice x n cx) none (some (.int .i64 (m : Int))) none).run Tryz.prog W = .ok (.slice x m cx) W := by
 rw [run_sliceAt_slice _ _ _ _ _ _ elemE', run_slice_h _ _ x n cx elemE' .i64 (m : Int) (by omega) (by omega), sizeOfE', Result.andThen_ok]
 unfold sliced
 simp only [Int.toNat_natCast, Nat.sub_zero, Nat.zero_mul]
 cases x with
 | none => simp
 | some ad =>
  have : ad.add 0 = ad := by unfold Addr.add; cases ad; simp
  simp [this]
theorem lieR_fin {w W : World} {v : Value} {L : List Ent} (ho : OwnL 0 W v L) (hl : L.length ≤ 100000) (hb : Below w.heap.size w W) : LieR L w (.returned v) W := by
 obtain ⟨a, c, rfl, he⟩ := ho.es hl
 exact ⟨a, c, rfl, he, hb⟩

set_option maxRecDepth 20000 in
set_option maxHeartbeats 40000000 in
theorem r31lie_any (a : Option Addr) (n c : Nat) (l : List Ent) (r : Rul) (hr : Sto.okRul r = true) (w : World) (H : ES (fun _ => True) w a n c l) (hll : l.length ≤ 100) (hdl : ∀ e ∈ l, e.data.length ≤ 99999) :
 Calls Tryz.prog 86 #[.slice a n c, .agg (ruC r).toArray] w (LieR (Sto.lie r.kind r.n l) w) := by
 have hrr := (Sto.okRul_iff r).1 hr
 have hlen := H.rs.len
 obtain ⟨dv, kd, nn⟩ := r
 simp only at hrr
 have hb1 : Below w.heap.size w (w.alloc (.cells (ruC ⟨dv, kd, nn⟩).toArray 73)) := (Below.refl _ w).alloc (Nat.le_refl _) _
 have hB1 := Blk.new w 73 (ruC ⟨dv, kd, nn⟩)
 obtain ⟨W1, hW1⟩ : ∃ W1, w.alloc (.cells (ruC ⟨dv, kd, nn⟩).toArray 73) = W1 := ⟨_, rfl⟩
 obtain ⟨tb, htb⟩ : ∃ tb, w.heap.size = tb := ⟨_, rfl⟩
 rw [hW1] at hb1 hB1
 rw [htb] at hB1
 have hW1s : W1.heap.size = tb + 1 := by rw [← hW1, World.size_alloc, htb]
 have hb2 : Below w.heap.size w (W1.alloc (.cells #[] 75)) := hb1.alloc hb1.size _
 have H2 : ES (fun b => b < tb) (W1.alloc (.cells #[] 75)) a n c l := (H.imp (K' := fun b => b < tb) fun b hb _ => by omega).below hb2
 obtain ⟨v, W3, hr3, hO3, hg3, _⟩ := append_ents (D := tb) (B := tb + 1) (q := W1.heap.size) (W := W1.alloc (.cells #[] 75)) (by omega) (by omega) (by rw [World.size_alloc]; omega) (Blk.new W1 75 []) H2
 obtain ⟨hL3, hlo3⟩ := hO3.toL (by omega)
 have hB3 : Hid (Blk W3 tb 73 (ruC ⟨dv, kd, nn⟩)) := (hB1.alloc _).grown hg3 (fun e => by injection e with e; omega)
 have hbw : Hid (Below w.heap.size w W3) := below_grown hb2 hg3 hb2.size (by omega)
 obtain ⟨x, cx, hv, hlec, hmax, hnilx, htk⟩ := hL3.take
 have hlo : Hid (∀ b, v.ownBlock = some b → tb + 1 ≤ b) := hlo3
 have hL := Lib.hid hL3
 have hr3' := Lib.hid hr3
 have hdl' := Lib.hid hdl
 obtain ⟨X, hX⟩ : ∃ X, X = LieR (Sto.lie kd nn l) w := ⟨_, rfl⟩
 have hfin : Hid (∀ v' W L, Sto.lie kd nn l = L → OwnL 0 W v' L → L.length ≤ 100000 → Below w.heap.size w W → X (.returned v') W) := fun v' W L e h1 h2 h3 => by rw [hX, e]; exact lieR_fin h1 h2 h3
 show Calls _ _ _ _ (LieR (Sto.lie kd nn l) w)
 rw [← hX]
 have htk' := Lib.hid htk
 obtain ⟨k, hk⟩ : ∃ k, Hid (l.length = k) := ⟨_, rfl⟩
 rw [hk.out] at hlen hll hlec hv htk'
 obtain rfl : n = k := hlen.symm
 have htb' := Lib.hid htb
 clear hX hr hdl hL3 hlo3 htk hr3 hg3 hO3 H2 hb2 hB1 hb1 H hlen hW1s htb
 have n63 : (n : Int) ≤ 100 := by omega
 have m63 : (cx : Int) ≤ 9223372036854775807 := by omega
 have hv' := Lib.hid hv
 rw [hv] at hr3'
 have c0 := hB3.out.at_ (i := 0) (x := .int .i64 dv) rfl
 have c1 := hB3.out.at_ (i := 1) (x := .int .i64 kd) rfl
 have c2 := hB3.out.at_ (i := 2) (x := .int .i64 nn) rfl
 clear hv
 go_enter Tryz.func86, Tryz.ntmps86
 go_upto_region 1 with fail
 rw [htb'.out]
 generalize hWq : World.alloc w _ = Wq
 obtain rfl : W1 = Wq := by rw [← hWq]; exact hW1.symm
 clear hWq hW1
 go_upto_region 2 with (first
  | (refine wpList_buildSlice_run (by rfl) 30 0 _ rfl #[] (by simp) (empty_ents _) ?_)
   | (at_builtin; refine Lib.wpList_append_run _ rfl _ _ _ _ rfl _ _ rfl rfl _ _ (hr3'.out _) ?_))
 clear hr3'
 have hkd : kd = 1 ∨ kd = 6 ∨ kd = 2 ∨ kd = 3 ∨ kd = 4 ∨ kd = 5 := by omega
 have hn0 : 0 ≤ nn ∧ nn ≤ 65536 := ⟨hrr.2.2.2.2.1, hrr.2.2.2.2.2⟩
 clear hrr c0
 rcases hkd with rfl | rfl | hkd
 · -- withhold
   obtain ⟨m, hm⟩ : ∃ m, Hid ((max 0 ((n : Int) - nn)).toNat = m) := ⟨_, rfl⟩
   have hml : m ≤ n := by rw [← hm.out]; omega
   have hmx : max 0 ((n : Int) - nn) = (m : Int) := by rw [← hm.out]; omega
   obtain ⟨ho2, _⟩ := htk'.out m hml
   have hend := Lib.hid (hfin.out _ W3 (l.take m) (by rw [Sto.lie_1, hk.out, hm.out]) ho2 (by rw [List.length_take]; omega) hbw.out)
   have hsl := fun W => esl_h x n cx m (by omega) W
   have hw1 : IntKind.i64.wrap ((n : Int) - nn) = (n : Int) - nn := IntWalk.i64_in _ (by omega)
   clear hfin ho2 htk' hL hlo hm hml hnilx hlec hmax
   go_wp2_with fail
   exact hend.out
 · -- silent
   have hend := Lib.hid (hfin.out (.slice none 0 0) W3 [] (Sto.lie_6 _ _) (ownL_nil _ _) (Nat.zero_le _) hbw.out)
   clear hfin htk' hL hlo hnilx hlec hmax
   go_wp2_with fail
   exact hend.out
 have g1 : (kd == 1) = false := by rw [beq_eq_false_iff_ne]; omega
 have g2 : decide (kd = 1) = false := decide_eq_false (by omega)
 have g3 : (kd == 6) = false := by rw [beq_eq_false_iff_ne]; omega
 have g4 : decide (kd = 6) = false := decide_eq_false (by omega)
 by_cases hin : 1 ≤ nn ∧ nn ≤ (n : Int)
 case neg =>
  have hend := Lib.hid (hfin.out _ W3 l (Sto.lie_out (by omega) (by omega) (by rw [hk.out]; exact hin)) hL.out (by rw [hk.out]; omega) hbw.out)
  rw [hv'.out] at hend
  clear hfin htk' hL hlo hnilx hlec hmax hv'
  by_cases h1 : nn < 1
  · have e1 : decide (nn < 1) = true := decide_eq_true h1
    clear hin h1
    go_wp2_with fail
    exact hend.out
  · have e1 : decide (nn < 1) = false := decide_eq_false h1
    have e2 : decide ((n : Int) < nn) = true := decide_eq_true (by omega)
    clear hin h1
    go_wp2_with fail
    exact hend.out
 case pos =>
 obtain ⟨i, hi⟩ : ∃ i : Nat, nn - 1 = (i : Int) := ⟨(nn - 1).toNat, by omega⟩
 have hin2 : i < n := by omega
 have e1 : decide (nn < 1) = false := decide_eq_false (by omega)
 have e2 : decide ((n : Int) < nn) = false := decide_eq_false (by omega)
 have hwk : IntKind.i64.wrap (i : Int) = (i : Int) := IntWalk.i64_in _ ⟨by omega, by omega⟩
 have hlieA : Hid (Sto.lie kd nn l = lieAt kd l i) := Sto.lie_in (by omega) (by omega) (by omega) (by rw [hk.out]; exact hin2)
 obtain ⟨e, he⟩ : ∃ e, Hid (l[i]? = some e) := ⟨_, List.getElem?_eq_getElem (by rw [hk.out]; exact hin2)⟩
 have hi0 : (0 : Int) ≤ (i : Int) := by omega
 have hi1 : (i : Int) < (n : Int) := by omega
 clear hin
 go_upto_region 10 with fail
 clear g1 g2 g3 g4 e1 e2
 have hbd : Hid (Below w.heap.size w W3.drew) := hbw.out.trans ((Below.refl _ W3).drew.mono hbw.out.size)
 have hLd : Hid (OwnL 0 W3.drew v l) := hL.out.kept ((Below.refl _ W3).drew)
 have hcd := hB3
 rcases hkd with rfl | rfl | rfl | rfl
 · -- drop
   have hLA := hlieA.out.trans (Sto.lieAt_2 he.out)
   obtain ⟨x2, cx2, hv2, hcut⟩ := hLd.out.cuts
   rw [hv'.out, hk.out] at hv2
   injection hv2 with q1 q2 q3
   subst q1 q3
   clear q2
   rw [hk.out] at hcut
   obtain ⟨aH, hs, hnilH, rows, hR, hcells⟩ := hcut (i + 1) (by omega)
   obtain ⟨ho2, hw2⟩ := htk'.out i (by omega)
   have ho3 := ho2.kept ((Below.refl _ W3).drew)
   rw [← hw2] at hR
   have hs1 := Lib.hid (fun W => esl_h x n cx i (by omega) W)
   have hs2 : Hid (∀ W, (Instr.sliceAt 30 (.slice x n cx) (some (.int .i64 nn)) none none).run Tryz.prog W = .ok (.slice aH (n - (i + 1)) (cx - (i + 1))) W) := fun W => by
    have := hs W
    rwa [show ((i + 1 : Nat) : Int) = nn by omega] at this
   obtain ⟨d, hd⟩ : ∃ d, n - (i + 1) = d := ⟨_, rfl⟩
   obtain ⟨cd, hcdd⟩ : ∃ d, cx - (i + 1) = d := ⟨_, rfl⟩
   rw [hd] at hnilH hs2
   rw [hcdd] at hs2
   obtain ⟨v7, W7, hr7', hO7, hg7, _⟩ := append_el (c := cd) ho3 hR (fun b e j u hu => (hcells b e j u hu).2) hnilH (by rw [List.length_drop, hk.out]; omega) (by rw [List.length_take]; omega) (Nat.zero_le _)
   have hend := Lib.hid (hfin.out v7 W7 _ hLA hO7 (by rw [List.length_append, List.length_take, List.length_drop, hk.out]; omega) (hbd.out.grown hg7 hbd.out.size (fun q e => by have := hlo.out q (by rw [← hw2]; exact e); have := htb'.out; omega)))
   have hr7 := Lib.hid hr7'
   clear hr7' hO7 hg7 hcells hR hnilH hs hcut ho2 ho3 hw2 hLA hd hcdd hfin htk' hL hLd hlo hlieA he hcd
   go_wp2_with fail
   clear c1 c2
   refine wp_region_held_drew (S := fun wz => True) (by kernel_rfl) (trivial) (fun hHeld => ?_)
   generalize W3.drew = Wd at *
   refine tQ 0 rfl hHeld ?_
   refine tQ 1 rfl hHeld ?_
   refine tQ 2 rfl hHeld ?_
   refine tX 3 rfl (fun wz hSw => hs1.out) hHeld ?_
   refine tQ 4 rfl hHeld ?_
   refine tQ 5 rfl hHeld ?_
   refine tX 6 rfl (fun wz hSw => hs2.out) hHeld ?_
   refine tO 7 rfl (fun K hK => ?_)
   refine wp_append_run rfl _ _ (by rfl) (by rfl) (hr7.out _) ?_
   refine hK.out _ _ trivial (fun hHeld2 => ?_)
   clear hK K
   try simp only [Act.put, sA, s0, s1]
   refine tQ 8 rfl hHeld ?_
   refine wpAnyH_done (by kernel_rfl) ?_ _
   go_wp2_with fail
   exact hend.out
 · -- repeat
   have hLA := hlieA.out.trans (Sto.lieAt_3 he.out)
   have htw := hLd.out.whole
   obtain ⟨x2, cx2, hv2, hcut⟩ := hLd.out.cuts
   rw [hv'.out, hk.out] at hv2
   injection hv2 with q1 q2 q3
   subst q1 q3
   clear q2
   rw [hk.out] at hcut
   obtain ⟨xw, cw, roww, hvw, hnilw, hRw, hcw⟩ := htw
   rw [hv'.out, hk.out] at hvw
   injection hvw with q1 q2 q3
   subst q1 q3
   clear q2
   obtain ⟨aH, hs, hnilH, rows, hR, hcells⟩ := hcut i (by omega)
   rw [hk.out] at hnilw
   have hsrc1 := (SrcE.of hRw hcw).take (i + 1)
   have hsrc2 := SrcE.of hR hcells
   have hal : Below W3.drew.heap.size W3.drew (W3.drew.alloc (.cells #[] 75)) := (Below.refl _ _).alloc (Nat.le_refl _) _
   have hs1 : Hid (∀ W, (Instr.sliceAt 30 (.slice x n cx) none (some (.int .i64 nn)) none).run Tryz.prog W = .ok (.slice x (i + 1) cx) W) := fun W => by
    have := esl_h x n cx (i + 1) (by omega) W
    rwa [show ((i + 1 : Nat) : Int) = nn by omega] at this
   have hs2 := Lib.hid hs
   obtain ⟨d, hd⟩ : ∃ d, n - i = d := ⟨_, rfl⟩
   obtain ⟨cd, hcdd⟩ : ∃ d, cx - i = d := ⟨_, rfl⟩
   obtain ⟨p, hp⟩ : ∃ p, i + 1 = p := ⟨_, rfl⟩
   rw [hd] at hnilH hs2
   rw [hcdd] at hs2
   rw [hp] at hs1 hsrc1
   have hlt : (l.take p).length = p := by rw [List.length_take]; have := hk.out; omega
   obtain ⟨v7, W7, hr7', hO7, hg7, hx7⟩ := append_src (c := cx) (n := p) (ownL_new W3.drew) (hsrc1.below hal) (fun b e => by injection e with e; exact Nat.le_of_eq e) (fun e => by have := hnilw e; omega) hlt (by simp only [List.length_nil]; omega)
   rw [List.nil_append] at hO7
   have hb7 : Below W3.drew.heap.size W3.drew W7 := hal.grown hg7 hal.size (fun b e => by injection e with e; exact Nat.le_of_eq e)
   have hlo7 : ∀ b, v7.ownBlock = some b → W3.drew.heap.size ≤ b := fun b e => by
    rcases hx7 with h5 | h5 | ⟨q, h5, h6⟩
    · have h6 : some b = some W3.drew.heap.size := e.symm.trans h5
      injection h6 with h6
      exact Nat.le_of_eq h6.symm
    · rw [e] at h5; cases h5
    · rw [e] at h5; injection h5 with h5; have := hal.size; omega
   obtain ⟨v9, W9, hr9', hO9, hg9, _⟩ := append_src (c := cd) (n := d) hO7 (hsrc2.below hb7) hlo7 hnilH (by rw [List.length_drop, hk.out]; omega) (by omega)
   have hLB : Sto.lie 3 nn l = l.take p ++ l.drop i := by rw [hLA, ← hp, List.take_add_one, he.out]; rfl
   have hb9 := hb7.grown hg9 hb7.size (fun b e => hlo7 b e)
   have hend := Lib.hid (hfin.out v9 W9 _ hLB hO9 (by rw [List.length_append, hlt, List.length_drop, hk.out]; omega) (hbd.out.trans (hb9.mono hbd.out.size)))
   have hr7 := Lib.hid hr7'
   have hr9 := Lib.hid hr9'
   clear hr7' hO7 hg7 hx7 hcells hR hnilH hs hcut hLA hd hcdd hfin htk' hL hLd hlo hlieA he hcd hnilw hRw hcw hsrc1 hsrc2 hal hlt hb7 hlo7 hr9' hO9 hg9 hLB hb9 hp
   go_wp2_with fail
   clear c1 c2
   refine wp_region_held_drew (S := fun wz => True) (by kernel_rfl) (trivial) (fun hHeld => ?_)
   generalize W3.drew = Wd at *
   refine tQ 1 rfl hHeld ?_
   refine tQ 2 rfl hHeld ?_
   refine tX 3 rfl (fun wz hSw => hs1.out) hHeld ?_
   refine tQ 5 rfl hHeld ?_
   refine tQ 6 rfl hHeld ?_
   refine tQ 7 rfl hHeld ?_
   refine tX 8 rfl (fun wz hSw => hs2.out) hHeld ?_
   refine tO 0 rfl (fun K hK => ?_)
   refine wp_buildSlice_run 30 0 #[] rfl #[] (by simp) (empty_ents _) ?_
   refine hK.out _ _ trivial (fun hHeld2 => ?_)
   clear hK K
   try simp only [Act.put, sA, s0, s1]
   refine tO 4 rfl (fun K hK => ?_)
   refine wp_append_run rfl _ _ (by rfl) (by rfl) (hr7.out _) ?_
   refine hK.out _ _ trivial (fun hHeld2 => ?_)
   clear hK K
   try simp only [Act.put, sA, s0, s1]
   refine tO 9 rfl (fun K hK => ?_)
   refine wp_append_run rfl _ _ (by rfl) (by rfl) (hr9.out _) ?_
   refine hK.out _ _ trivial (fun hHeld2 => ?_)
   clear hK K
   try simp only [Act.put, sA, s0, s1]
   refine tQ 10 rfl hHeld ?_
   refine wpAnyH_done (by kernel_rfl) ?_ _
   go_wp2_with fail
   exact hend.out
 · -- swap
   by_cases hlast : i + 1 < n
   case neg =>
    have hLA := hlieA.out.trans (Sto.lieAt_4n he.out (List.getElem?_eq_none (by rw [hk.out]; omega)))
    have hend := Lib.hid (hfin.out _ W3 _ hLA hL.out (by rw [hk.out]; omega) hbw.out)
    rw [hv'.out] at hend
    have p1 : decide (nn < (n : Int)) = false := decide_eq_false (by omega)
    clear hLA hfin htk' hL hLd hlo hlieA he hcd hlast
    go_wp2_with fail
    exact hend.out
   case pos =>
    obtain ⟨f, hf⟩ : ∃ f, l[i + 1]? = some f := ⟨_, List.getElem?_eq_getElem (by rw [hk.out]; exact hlast)⟩
    have hLA := hlieA.out.trans (Sto.lieAt_4 he.out hf)
    obtain ⟨g, cap, r, hvg, _, hgl, _, _, hev, hrg⟩ := hLd.out.at he.out
    obtain ⟨g2, cap2, r2, hv2, _, _, _, _, hev2, hrg2⟩ := hLd.out.at hf
    obtain rfl : g = g2 := by rw [hvg] at hv2; injection hv2 with h1; injection h1 with h2; injection h2
    obtain ⟨g3, cap3, hv3, hth1, ho2, hg2⟩ := hLd.out.put he.out (e' := f) (r' := r2) hev2
    obtain rfl : g = g3 := by rw [hvg] at hv3; injection hv3 with h1; injection h1 with h2; injection h2
    have hvo : v.ownBlock = some g := by rw [hvg]; rfl
    have hg2' : W3.drew.grownBy (W3.drew.setCells g (i * 35) r2) v.ownBlock := by rw [hvo]; exact hg2
    have hj2 : (l.set i f)[i + 1]? = some f := by rw [List.getElem?_set_ne (by omega)]; exact hf
    obtain ⟨g4, cap4, hv4, hth2, ho3, hg3⟩ := ho2.put hj2 (e' := e) (r' := r) (ev_next hg2' (.inl rfl) hev)
    obtain rfl : g = g4 := by rw [hvg] at hv4; injection hv4 with h1; injection h1 with h2; injection h2
    have hr1 := hev.len
    have hr2 := hev2.len
    have h1a : Hid (∀ u ∈ r, u.oneCell' = true) := hev.one
    have h1b : Hid (∀ u ∈ r2, u.oneCell' = true) := hev2.one
    have hs1 : Hid ((Tryz.prog.info? 75).map (·.size) = some r.length) := by show _ = _; rw [hr1]; exact sizeE
    have hs2 : Hid ((Tryz.prog.info? 75).map (·.size) = some r2.length) := by show _ = _; rw [hr2]; exact sizeE
    have ra := Lib.hid hrg
    have rb := Lib.hid hrg2
    have t1 : Hid (W3.drew.there g (i * 35) r2.toArray.size) := by show World.there _ _ _ _; rw [List.size_toArray, hr2]; exact hth1
    have t2 : Hid ((W3.drew.setCells g (i * 35) r2).there g ((i + 1) * 35) r.toArray.size) := by show World.there _ _ _ _; rw [List.size_toArray, hr1]; exact hth2
    have hgo : tb + 1 ≤ g := hlo.out g hvo
    have hb8 := below_grown hbd.out hg2 hbd.out.size (by have := htb'.out; omega)
    have hend := Lib.hid (hfin.out v _ _ hLA ho3 (by rw [List.length_set, List.length_set, hk.out]; omega) (below_grown hb8 hg3 hb8.size (by have := htb'.out; omega)))
    rw [hv'.out] at hvg hend
    injection hvg with qa qb qc
    subst qa qc
    clear qb
    have p1 : decide (nn < (n : Int)) = true := decide_eq_true (by omega)
    have k3 : nn.toNat = i + 1 := by omega
    have k4 : (0 : Int) ≤ nn := by omega
    have k5 : nn < (n : Int) := by omega
    clear hLA hfin htk' hL hLd hlo hlieA he hcd hlast hf hev hev2 hrg hrg2 hth1 hth2 hv2 hv3 hv4 hvo hj2 hr1 hr2 hb8 hg2 hg2' hg3 ho2 ho3 hgo hgl
    have hnn : nn = (i : Int) + 1 := by omega
    subst hnn
    go_upto_region 17 with fail
    clear c1 c2
    refine wp_region_held_drew (S := fun wz => True) (by kernel_rfl) (trivial) (fun hHeld => ?_)
    refine tQ 0 rfl hHeld ?_
    refine tQ 1 rfl hHeld ?_
    refine tQ 2 rfl hHeld ?_
    refine tQ 3 rfl hHeld ?_
    refine tQ 4 rfl hHeld ?_
    refine tQ 5 rfl hHeld ?_
    refine tQ 6 rfl hHeld ?_
    refine tQ 7 rfl hHeld ?_
    refine tQ 9 rfl hHeld ?_
    refine tQ 10 rfl hHeld ?_
    refine tQ 11 rfl hHeld ?_
    refine tQ 12 rfl hHeld ?_
    refine Go.rd (rs := [8, 13]) ?_
    refine tR rfl (fun K hK => ?_) (tR rfl (fun K hK => ?_) Go.rn)
    case refine_1 =>
     refine wp_load_mid 75 _ rfl g ((i + 1) * 35) rfl r2 _ rb.out Tryz.underlying75 rfl hs2.out (hK.out _ _ trivial (fun hHeld => ?_))
     clear hK K
     try simp only [Act.put, sA, s0, s1]
     refine tO 13 rfl (fun K hK => ?_)
     refine wp_load_mid 75 _ rfl g (i * 35) rfl r _ ra.out Tryz.underlying75 rfl hs1.out (hK.out _ _ trivial (fun hHeld => ?_))
     clear hK K
     try simp only [Act.put, sA, s0, s1]
     refine tQ 14 rfl hHeld ?_
     refine tO 15 rfl (fun K hK => ?_)
     refine wp_store_mid 75 _ _ rfl g (i * 35) r2.toArray (by rfl) (by rfl) t1.out (by rw [List.size_toArray]; exact hs2.out) (by simpa using h1b.out) ?_
     refine hK.out _ _ trivial (fun hHeld => ?_)
     clear hK K
     try simp only [Act.put]
     refine tQ 16 rfl hHeld ?_
     refine tO 17 rfl (fun K hK => ?_)
     refine wp_store_mid 75 _ _ rfl g ((i + 1) * 35) r.toArray (by rfl) (by rfl) t2.out (by rw [List.size_toArray]; exact hs1.out) (by simpa using h1a.out) ?_
     refine hK.out _ _ trivial (fun hHeld => ?_)
     clear hK K
     try simp only [Act.put]
     refine wpAnyH_done (by kernel_rfl) ?_ _
     go_wp2_with fail
     exact hend.out
    case refine_2 =>
     refine wp_load_mid 75 _ rfl g (i * 35) rfl r _ ra.out Tryz.underlying75 rfl hs1.out (hK.out _ _ trivial (fun hHeld => ?_))
     clear hK K
     try simp only [Act.put, sA, s0, s1]
     refine tO 8 rfl (fun K hK => ?_)
     refine wp_load_mid 75 _ rfl g ((i + 1) * 35) rfl r2 _ rb.out Tryz.underlying75 rfl hs2.out (hK.out _ _ trivial (fun hHeld => ?_))
     clear hK K
     try simp only [Act.put, sA, s0, s1]
     refine tQ 14 rfl hHeld ?_
     refine tO 15 rfl (fun K hK => ?_)
     refine wp_store_mid 75 _ _ rfl g (i * 35) r2.toArray (by rfl) (by rfl) t1.out (by rw [List.size_toArray]; exact hs2.out) (by simpa using h1b.out) ?_
     refine hK.out _ _ trivial (fun hHeld => ?_)
     clear hK K
     try simp only [Act.put]
     refine tQ 16 rfl hHeld ?_
     refine tO 17 rfl (fun K hK => ?_)
     refine wp_store_mid 75 _ _ rfl g ((i + 1) * 35) r.toArray (by rfl) (by rfl) t2.out (by rw [List.size_toArray]; exact hs1.out) (by simpa using h1a.out) ?_
     refine hK.out _ _ trivial (fun hHeld => ?_)
     clear hK K
     try simp only [Act.put]
     refine wpAnyH_done (by kernel_rfl) ?_ _
     go_wp2_with fail
     exact hend.out
 · -- fork
   have hLA : Hid (Sto.lie 5 nn l = l.set i (forkE e)) := hlieA.out.trans (Sto.lieAt_5 he.out)
   obtain ⟨g, cap, r, hvg0, _, hgl, hnc, hcm, ⟨ok, ea, en, ec, rfl, hbk⟩, hrg⟩ := hL.out.at he.out
   have hok := Lib.hid ok
   have hvg := Lib.hid hvg0
   have hvo : Hid (v.ownBlock = some g) := by show _ = _; rw [hvg0]; rfl
   have hde := hdl'.out e (List.mem_of_getElem? he.out)
   have hel : e.data.length = en := hbk.bs.len
   have hlt6 : ∀ u ∈ e.data ++ [0], u < 256 := fun u hu => by
    rcases List.mem_append.1 hu with hu | hu
    · exact hbk.bs.lt u hu
    · rw [List.mem_singleton] at hu; omega
   have okF : Hid (OkE (forkE e)) := ⟨Sha.tagged_length _ _, Sha.tagged_lt _ _, ok.lo, ok.hi, by show (e.data ++ [0]).length ≤ _; rw [List.length_append]; simp; omega⟩
   have hal : Below W3.heap.size W3 (W3.alloc (.cells #[] 5)) := (Below.refl _ W3).alloc (Nat.le_refl _) _
   have hown0 : (W3.alloc (.cells #[] 5)).ownsRow W3.heap.size 5 1 (.slice (some ⟨W3.heap.size, 0, none⟩) 0 0) 0 (bv []) := ⟨rfl, Or.inr ⟨W3.heap.size, 0, #[], rfl, Nat.le_refl _, heap_alloc_new W3 _, Nat.le_refl _, by unfold maxLen; omega, rfl, rfl⟩⟩
   obtain ⟨v4, W4, hr4', hown4, hg4⟩ := append_bs hown0 (hbk.bs.below hal) (by omega) hal.size
   rw [Nat.zero_add, List.nil_append] at hown4
   have hb4 : Below W3.heap.size W3 W4 := hal.grown hg4 hal.size (fun b e => (World.ownsRow.lt hown0 b e).1)
   have hal5 : Below W4.heap.size W4 (W4.alloc (.cells #[.int .u8 0] 5)) := (Below.refl _ W4).alloc (Nat.le_refl _) _
   have hz5 : BW (W4.alloc (.cells #[.int .u8 0] 5)) (some ⟨W4.heap.size, 0, none⟩) 1 1 [0] := .inl (by
    have hb' := Blk.new W4 5 [.int .u8 0]
    exact ⟨rfl, Nat.le_refl _, by omega, (fun e => by cases e), fun ad e => by
     cases e
     refine ⟨_, 0, rfl, hb'.lt, fun i x hx => ?_⟩
     rw [Nat.zero_add]
     match i, hx with
      | 0, hx => cases hx; exact hb'.at_ rfl, fun x hx => by rw [List.mem_singleton] at hx; omega⟩)
   obtain ⟨v6, W6, hr6', hown6, hg6⟩ := append_bs (World.ownsRow.alloc hown4 (.cells #[.int .u8 0] 5)) hz5 (by omega) (Nat.le_trans hb4.size hal5.size)
   have hb46 : Below W3.heap.size W3 W6 := (hb4.trans (hal5.mono hb4.size)).grown hg6 (Nat.le_trans hb4.size hal5.size) (fun b e => (World.ownsRow.lt hown4 b e).1)
   obtain ⟨m, hm⟩ : ∃ m, en + 1 = m := ⟨_, rfl⟩
   have hm63 : m ≤ 140737488354000 := by omega
   rw [hm] at hown6
   obtain ⟨a5, c5, rfl, hBS⟩ := BS.own hown6 hlt6
   have hfr : ∀ ad, a5 = some ad → W3.heap.size ≤ ad.block := fun ad ee => by
    obtain ⟨_, _, hv, _, h3⟩ := Sl.of_owns hown6
    cases hv
    exact (h3 ad ee).1
   have hbk6 : Hid (BK (fun b => W3.heap.size ≤ b) W6.drew a5 m c5 (e.data ++ [0])) := (BK.of hBS hfr).keep (.below ((Below.refl _ W6).drew))
   have hBW := Lib.hid hbk6.out.bs
   have hL6 : Hid (OwnL 0 W6.drew v l) := hL.out.kept (hb46.trans ((Below.refl _ W6).drew.mono hb46.size))
   have hb6 : Hid (Below w.heap.size w W6.drew) := hbw.out.trans ((hb46.trans ((Below.refl _ W6).drew.mono hb46.size)).mono hbw.out.size)
   have hk3 : W3.cell? ⟨g, i * 35, none⟩ = some (.int .i64 e.kind) := by
    have := hrg 0 (.int .i64 e.kind) rfl
    rwa [Nat.add_zero] at this
   have hk6 : W6.drew.cell? ⟨g, i * 35, none⟩ = some (.int .i64 e.kind) := (hb46.cell (p := ⟨g, _, none⟩) hgl).trans hk3
   have hgd : g < W6.drew.heap.size := Nat.lt_of_lt_of_le hgl hb46.size
   have hg3 := Lib.hid hgl
   have hd33 : (W3.alloc (.cells #[] 5)).cell? ⟨g, i * 35 + 33, none⟩ = some (.slice ea en ec) := (hal.cell (p := ⟨g, _, none⟩) hgl).trans (hrg 33 _ (entC_data ok.dig ea en ec))
   have hr4 := Lib.hid hr4'; have hr6 := Lib.hid hr6'
   clear hr4' hr6' hown0 hown4 hown6 hg4 hg6 hb4 hal hal5 hz5 hBS hfr hb46 hk3 hrg hbk ok hde hel hlt6 hgl
   rw [hv'.out, hk.out] at hvg0
   injection hvg0 with qa qb qc
   subst qa qc
   clear qb
   go_upto_region 20 with (first
    | (at_builtin; refine Lib.wpList_append_run _ rfl _ _ _ _ rfl _ _ rfl rfl _ _ (hr4.out _) ?_)
     | (at_builtin; refine Lib.wpList_append_run _ rfl _ _ _ _ rfl _ _ rfl rfl _ _ (hr6.out _) ?_))
   clear hr4 hr6 hd33 c1 c2 hcd hLd hL htk'
   refine wp_region_held_drew (S := fun wz => wz.cell? ⟨g, i * 35, none⟩ = some (.int .i64 e.kind)) (by kernel_rfl) (hk6) (fun hHeld => ?_)
   generalize W6.drew = Wd at *
   refine tQ 0 rfl hHeld ?_
   refine tQ 1 rfl hHeld ?_
   refine tQ 2 rfl hHeld ?_
   refine tQ 3 rfl hHeld ?_
   refine tQ 4 rfl hHeld ?_
   refine tQ 5 rfl hHeld ?_
   refine tQ 6 rfl hHeld ?_
   refine tQ 7 rfl hHeld ?_
   refine tX 8 rfl (fun wz hSw => hSw) hHeld ?_
   refine tQ 9 rfl hHeld ?_
   refine tQ 10 rfl hHeld ?_
   refine tQ 11 rfl hHeld ?_
   refine tQ 12 rfl hHeld ?_
   refine tQ 13 rfl hHeld ?_
   refine tQ 14 rfl hHeld ?_
   refine tX 15 rfl (fun wz hSw => hSw) hHeld ?_
   refine tQ 16 rfl hHeld ?_
   refine tO 17 rfl (fun K hK => ?_)
   go_simp
   go_at_call 104
   refine (r30digest_any e.kind ⟨hok.out.lo, hok.out.hi⟩ a5 m c5 (e.data ++ [0]) _ hBW.out (by omega)).mono ?_
   rintro e8 W8 ⟨rfl, hz⟩
   have hk8 : W8.cell? ⟨g, i * 35, none⟩ = some (.int .i64 e.kind) := (hz.cell (p := ⟨g, _, none⟩) hgd).trans hHeld
   have hL8 := hL6.out.kept hz
   have hbk8 : BK (fun b => W3.heap.size ≤ b) W8 a5 m c5 (e.data ++ [0]) := hbk6.out.keep (.below hz)
   have hb8 := hb6.out.trans (hz.mono hb6.out.size)
   refine hK.out _ _ hk8 (fun hHeld2 => ?_)
   clear hHeld hz
   have hHeld := hk8
   clear hHeld2
   clear hK K
   try simp only [Act.put, sA, s0, s1]
   obtain ⟨g', cap', hvv, hth, hown9, hgr9⟩ := hL8.put he.out (e' := forkE e) (r' := entC (forkE e) a5 m c5) ⟨okF.out, a5, m, c5, rfl, hbk8.imp (fun b _ h => ⟨Nat.zero_le _, by rw [hvo.out]; intro ee; injection ee with ee; have := hg3.out; omega⟩)⟩
   obtain rfl : g = g' := by rw [hvg.out] at hvv; injection hvv with h1; injection h1 with h2; injection h2
   have hsz : Hid ((Tryz.prog.info? 75).map (·.size) = some (entC (forkE e) a5 m c5).length) := sizeEn okF.out.dig a5 m c5
   have h1c : Hid (∀ u ∈ entC (forkE e) a5 m c5, u.oneCell' = true) := entC_one _ _ _ _
   have hln : Hid ((entC (forkE e) a5 m c5).length = 35) := entC_length okF.out.dig _ _ _
   have hend := Lib.hid (hfin.out v _ _ hLA.out hown9 (by rw [List.length_set, hk.out]; omega) (below_grown hb8 hgr9 hb8.size (by have := hlo.out g hvo.out; have := htb'.out; omega)))
   rw [hv'.out] at hend
   obtain ⟨g9, _, r9, hv9, _, _, _, _, ⟨_, a9, n9, c9, er9, _⟩, hr9⟩ := hown9.at (i := i) (e := forkE e) (by rw [List.getElem?_set_self (by rw [hk.out]; exact hin2)])
   obtain rfl : g = g9 := by rw [hvg.out] at hv9; injection hv9 with h1; injection h1 with h2; injection h2
   have hk9 : (W8.setCells g (i * 35) (entC (forkE e) a5 m c5)).cell? ⟨g, i * 35, none⟩ = some (.int .i64 e.kind) := by
    have := hr9 0 (.int .i64 e.kind) (by rw [er9]; rfl)
    rwa [Nat.add_zero] at this
   have hth' := Lib.hid hth
   clear hown9 hgr9 hth hL8 hbk8 hb8 hvv hv9 hr9 er9
   have hbo := Lib.hid (fun W => ent_build_o (e := forkE e) okF.out.dig rfl a5 m c5 W)
   generalize entC (forkE e) a5 m c5 = r2 at *
   refine tU 18 rfl #[(0, .int .i64 e.kind), (2, .slice a5 m c5), (1, .agg (bv (forkE e).dig).toArray)] hbo.out hHeld ?_
   refine tQ 19 rfl hHeld ?_
   refine tO 20 rfl (fun K hK => ?_)
   refine wp_store_mid 75 _ _ rfl g (i * 35) r2.toArray (by rfl) (by rfl) (by rw [List.size_toArray, hln.out]; exact hth'.out) (by rw [List.size_toArray]; exact hsz.out) (by simpa using h1c.out) ?_
   refine hK.out _ _ hk9 (fun hHeld2 => ?_)
   clear hK K
   try simp only [Act.put]
   refine wpAnyH_done (by kernel_rfl) ?_ _
   clear hHeld hk9
   go_wp2_with fail
   exact hend.out
end Go.Proofs.YtnonfdcbnkdmcaaGreatDoor
