/- what a row's arguments are: listings, roots, directories, watches -/
import Derived.Test.YthnfjkgiaanmhaaGreatDoorRd
import Derived.Test.YthnfjkgiaanmhaaGreatDoorRb
import Derived.Test.YthnfjkgiaanmhaaGreatDoorRa
import Derived.Test.YthnfjkgiaanmhaaGreatDoorRows
import Derived.Test.YthnfjkgiaanmhaaGreatDoorCards
import Derived.Test.YthnfjkgiaanmhaaGreatDoorTie
import Derived.SevenTiedAt
import Derived.Deep.DeepHandedRow
import Derived.Deep.DeepWitnessRowRef
import Derived.ProofKit
import Derived.LaidMore
import Derived.OpenShut
import Derived.ChangeOld
import Derived.Lib.SmallJoins
import Derived.Deep.Slices
import Derived.Deep.Strs
import Derived.Stop.Joined
namespace Go.Dr
def exL : Lst := ⟨3, 4, 16, 1, false⟩
theorem ok16 : Grp.ok 16 = true := by
  have h := Grp.ok_pw Grp.base_ord 2
  have e : Grp.pw 4 2 = 16 := by decide
  rw [e] at h
  exact h
theorem ok0 : Grp.ok 0 = false := by unfold Grp.ok; rw [decide_eq_false_iff_not]; omega
theorem exL_fits : fitsB exL = true := by
  have h4 := Go.Proofs.YthnfjkgiaanmhaaGreatDoor.base_ok
  have h16 := ok16
  unfold fitsB exL
  rw [h4, h16]
  rfl
theorem zeroL_fits : fitsB zeroL = false := by unfold fitsB zeroL; simp
open Go.Proofs.YthnfjkgiaanmhaaGreatDoor (OkQ keyOk I64)
/-- the example of the chapter. -/
structure Dex (b pub : Int) (r : Rt) : Prop where
  set : setD b ⟨5, [], []⟩ exL = (⟨5, [exL], [r]⟩, 0)
  set0 : setD b ⟨5, [], []⟩ zeroL = (zeroDir, 350)
  no : r.no = 1
  prev : r.prev = zd
  dig : r.dig = rootD [exL]
  sg : signedB b pub r = true
  sg0 : signedB b pub zeroR = false
theorem key5 : keyOk 5 = true := by decide
theorem chk0 : chkL [] = true := rfl
theorem ins0 : insL exL [] = [exL] := rfl
theorem dex_there {b : Int} (hb : Grp.ok b = true) : ∃ r, Dex b (Go.Proofs.YthnfjkgiaanmhaaGreatDoor.pubB b 5) r := by
  refine ⟨nextR b ⟨5, [exL], []⟩, ?_, ?_, rfl, rfl, rfl, next_signed (D := ⟨5, [exL], []⟩) hb key5 (by decide), ?_⟩
  · unfold setD
    rw [if_pos key5, if_pos chk0, if_pos (by rw [exL_fits]; rfl)]
    unfold tickD
    rw [if_pos key5, if_pos (show chkL (insL exL []) = true from chk_insL exL_fits chk0), if_pos (by decide)]
    simp only [ins0, List.nil_append]
  · unfold setD
    rw [if_pos key5, if_pos chk0, if_neg (by rw [zeroL_fits]; simp)]
  · unfold signedB zeroR
    rw [decide_eq_false (by show ¬ (1 ≤ (0 : Int) ∧ (0 : Int) ≤ 65536); omega)]; rfl
theorem ex_chk : chkL [exL] = true := by
  have h := chk_insL exL_fits chk0
  rw [ins0] at h
  exact h
theorem ex_path : verP (rootD [exL]) exL false (pathD [exL] 3) = true := by
  have h := change (l := []) (x := exL) (by decide)
  rw [ins0] at h
  exact h
theorem ex_other : verP (rootD [exL]) ⟨4, 0, 0, 0, false⟩ true (pathD [exL] 4) = true := by
  have := proves (l := [exL]) (dev := 4) (by decide) (x := ⟨4, 0, 0, 0, false⟩) (listed := false) (.inr ⟨by decide, rfl, rfl⟩)
  exact this
end Go.Dr
namespace Go.Proofs.YthnfjkgiaanmhaaGreatDoor
open Go.RowKit Go.Mem
open Go.Dr (Lst Rt Dir exL)

/-- a long load under a guard that holds. -/
theorem wpList_load_gd {P : Program} {ops : Array Oper} {rest : List Oper} {op : Oper} {a : Act} {w : World} {Q : Exit → Act → World → Prop} (hw : Region.wanted op (yielded ops a.tmps) = true) (ty : TypeId) (x : Operand) (ho : op.op = .load ty x)
    (b o : Nat) (hx : a.eval x = .pointer (some ⟨b, o, none⟩)) (cs : List Value) (d : TypeDesc) (hc : w.rangeAt b o cs)
    (hu : P.underlying ty = some d) (hd : d.isRow = true) (hi : (P.info? ty).map (·.size) = some cs.length)
    (h : wpList P ops Q rest (a.put op.dst (.agg cs.toArray)) w) : wpList P ops Q (op :: rest) a w :=
  BigFrame.wpList_want hw fun _ hK => wp_load_mid ty x ho b o hx cs d hc hu hd hi (hK _ _ h)
theorem ownD_ds {w : World} {B : Nat} {v : Value} {ds : List (List Nat)} (h : OwnD B w v ds) : ∃ a c, v = .slice a ds.length c ∧ DS w a ds.length c ds := by
  obtain ⟨a, c, rfl, hR, hs⟩ := Sl.of_owns h.1
  refine ⟨a, c, rfl, rfl, hR.le, by have := hR.max; unfold maxLen at this; omega, fun e => (hR.nil e).1, fun hn ad e => ?_, h.2⟩
  obtain ⟨b, off, e2, hlt, hc⟩ := hR.cells hn
  rw [e] at e2
  cases e2
  refine ⟨b, off, rfl, hlt, fun i x hi j v hv => ?_⟩
  have hsz : ∀ r ∈ ds.map bv, r.length = 32 := by intro r hr; obtain ⟨d, hd, rfl⟩ := List.mem_map.1 hr; rw [bv_length]; exact (h.2 d hd).1
  have := hc (i * 32 + j) v (flat_get hsz (by rw [List.getElem?_map, hi]; rfl) hv)
  rw [Nat.add_assoc, Nat.mul_comm 32]
  exact this
theorem dr_one (p : Int) (a : Option Addr) (n c : Nat) (b : Option Addr) (m d : Nat) : ∀ u ∈ dirC p a n c b m d, u.oneCell' = true := by intro u hu; simp only [dirC, List.mem_cons, List.not_mem_nil, or_false] at hu; rcases hu with rfl | rfl | rfl <;> rfl
theorem dm_new (p : Int) (hp : I64 p) (w : World) : DM (fun _ => True) w ⟨p, [], []⟩ none 0 0 none 0 0 := ⟨hp, RS.nil0 _ _ _, RS.nil0 _ _ _⟩
theorem okL_ex : OkG exL := ⟨⟨by decide, by decide⟩, ⟨by decide, by decide⟩, ⟨by decide, by decide⟩, ⟨by decide, by decide⟩⟩
theorem okL_zero : OkG Go.Dr.zeroL := ⟨i64_0, i64_0, i64_0, i64_0⟩
def zdV : List Value := dirC 0 none 0 0 none 0 0

/-- Set, Prove, where the answer is known. -/
theorem set_at {D E : Dir} {x : Lst} {la : Option Addr} {ln lc : Nat} {ra : Option Addr} {rn rc : Nat} {w : World} (h : Go.Dr.setD 4 D x = (E, 0)) (hx : OkG x) (HT : Tabs w) (H : DM (fun _ => True) w D la ln lc ra rn rc) :
    Calls Tryz.prog 22 #[.agg (dirC D.priv la ln lc ra rn rc).toArray, .agg (gC x).toArray] w (fun e w' => ∃ a c b d, e = .returned (.tuple #[.agg (dirC E.priv a E.ls.length c b E.rs.length d).toArray, .int .i64 0]) ∧ DM (fun b => w.heap.size ≤ b) w' E a E.ls.length c b E.rs.length d ∧ Below w.heap.size w w') := by
  have h1 := set_any (fun _ => True) D la ln lc ra rn rc x hx w HT H
  rw [h] at h1
  refine h1.mono ?_
  rintro e w' (⟨_, a, n, c, b, m, d, rfl, hD, hb⟩ | ⟨h0, _⟩)
  · obtain rfl : E.ls.length = n := RS.len hD.gs
    obtain rfl : E.rs.length = m := RS.len hD.qs
    exact ⟨a, c, b, d, rfl, hD, hb⟩
  · exact absurd rfl h0
theorem set_no {D E : Dir} {x : Lst} {q : Int} {la : Option Addr} {ln lc : Nat} {ra : Option Addr} {rn rc : Nat} {w : World} (h : Go.Dr.setD 4 D x = (E, q)) (hq : q ≠ 0) (hx : OkG x) (HT : Tabs w) (H : DM (fun _ => True) w D la ln lc ra rn rc) :
    Calls Tryz.prog 22 #[.agg (dirC D.priv la ln lc ra rn rc).toArray, .agg (gC x).toArray] w (fun e w' => e = .returned (.tuple #[.agg zdV.toArray, .int .i64 q]) ∧ Below w.heap.size w w') := by
  have h1 := set_any (fun _ => True) D la ln lc ra rn rc x hx w HT H
  rw [h] at h1
  refine h1.mono ?_
  rintro e w' (⟨h0, _⟩ | ⟨_, rfl, hb⟩)
  · exact absurd h0 hq
  · exact ⟨rfl, hb⟩
theorem new_at {k : Int} (hk : keyOk k = true) (w : World) : Calls Tryz.prog 20 #[.int .i64 k] w (fun e w' => e = .returned (.tuple #[.agg (dirC k none 0 0 none 0 0).toArray, .int .i64 0]) ∧ Below w.heap.size w w') := by
  have h := dnew_any k w
  unfold NewPost Go.Dr.newD at h
  rw [if_pos hk] at h
  exact h
theorem new_no {k : Int} (hk : keyOk k = false) (w : World) : Calls Tryz.prog 20 #[.int .i64 k] w (fun e w' => e = .returned (.tuple #[.agg zdV.toArray, .int .i64 50]) ∧ Below w.heap.size w w') := by
  have h := dnew_any k w
  unfold NewPost Go.Dr.newD at h
  rw [if_neg (by rw [hk]; simp)] at h
  exact h

end Go.Proofs.YthnfjkgiaanmhaaGreatDoor
namespace Go.Proofs.YthnfjkgiaanmhaaGreatDoor
open Go.ChangeShapes Go.WideShapes Go.ChangeAt Go.RowKit Go.Joins Go.Mem
open Go.Dr (Lst Rt Dir)

theorem cellsBo : Tryz.prog.cellsOf 4 = 1 := by kernel_rfl
theorem cellsLs : Tryz.prog.cellsOf 57 = 5 := by kernel_rfl
theorem own : ownKnob Tryz.prog.godebug = none := by kernel_rfl
theorem laidOut : laidOutB Tryz.prog = true := by kernel_rfl
theorem cellsU8 : Tryz.prog.cellsOf 5 = 1 := by kernel_rfl
theorem cellsU32 : Tryz.prog.cellsOf 151 = 1 := by kernel_rfl
theorem cellsInt : Tryz.prog.cellsOf 3 = 1 := by kernel_rfl
theorem cellsSig : Tryz.prog.cellsOf 38 = 2 := by kernel_rfl
theorem wf_i64 {n : Int} (h : (Lit.int .i64 n).wf = true) : I64 n := by
  have := bounds_i64 h
  unfold I64; omega

section
variable {H : Type} {enc : TypeId × Value → H} {W : World} {spare held : Bool}

theorem one_at {cs : List Value} {i : Nat} {v : Value} (h : (cs.drop (i * 1)).take 1 = [v]) : cs[i]? = some v := by
  rw [Nat.mul_one] at h
  have := congrArg (·[0]?) h
  simpa using this

theorem open_digest {fuel : Nat} {cs : List Value} {x : DataW H × List MemPlace} (h : DataW.trod enc Tryz.prog W 0 (fun _ => true) true fuel 36 cs = some x) :
    ∃ D : List Nat, cs = bv D ∧ D.length = 32 ∧ ∀ u ∈ D, u < 256 := by
  obtain ⟨xs, m, _, _, hl, hn, he⟩ := DataW.trod_array Tryz.underlying36 h
  rw [cells35] at hl
  rw [cellsU8] at he
  have each : ∀ i, i < 32 → ∃ y : Nat, cs[i]? = some (.int .u8 (y : Int)) ∧ y < 256 := by
    intro i hi
    have h1 := he i hi
    rw [List.getElem?_eq_getElem (by omega)] at h1
    obtain ⟨a, e0, _, w0⟩ := DataW.trod_int Tryz.underlying5 h1
    have hb : 0 ≤ a ∧ a < 256 := by
      have h2 : IntKind.u8.min ≤ a ∧ a ≤ IntKind.u8.max := by simpa [Lit.wf] using w0
      have e1 : IntKind.u8.min = 0 := rfl
      have e2 : IntKind.u8.max = 255 := rfl
      omega
    exact ⟨a.toNat, by rw [one_at e0, Int.toNat_of_nonneg hb.1], by omega⟩
  obtain ⟨f, hf⟩ := Deep.choose_lt each
  refine ⟨(List.range 32).map f, ?_, by simp, fun u hu => ?_⟩
  · apply List.ext_getElem?
    intro i
    by_cases hi : i < 32
    · rw [(hf i hi).1]
      simp [bv, hi]
    · rw [List.getElem?_eq_none (by omega), List.getElem?_eq_none (by simp [bv]; omega)]
  · obtain ⟨i, hi, rfl⟩ := List.mem_map.1 hu
    exact (hf i (List.mem_range.1 hi)).2

theorem open_int1 {fuel : Nat} {cs : List Value} {x : DataW H × List MemPlace} (h : DataW.trod enc Tryz.prog W 0 (fun _ => true) true fuel 3 cs = some x) : ∃ a : Int, cs = [.int .i64 a] ∧ I64 a := by
  obtain ⟨a, e, _, w⟩ := DataW.trod_int Tryz.underlying3 h
  exact ⟨a, e, wf_i64 w⟩

theorem len_two : ∀ {l : List Value}, l.length = 2 → ∃ u v, l = [u, v]
  | [u, v], _ => ⟨u, v, rfl⟩
theorem drop_parts (cs : List Value) (i k j : Nat) (hj : i + k = j) : cs.drop i = (cs.drop i).take k ++ cs.drop j := by
  rw [← hj, ← List.drop_drop, List.take_append_drop]

theorem trod_u32s {t : TypeId} {k fuel : Nat} {l : List Nat} {cs : List Value} {p : List MemPlace} (ht : Tryz.prog.underlying t = some (.array k 151)) (hk : l.length = k)
    (h : DataW.trod enc Tryz.prog W 0 (fun _ => spare) held fuel t cs = some (.agg (l.map fun (x : Nat) => .lit (.int .u32 (x : Int))), p)) : ∀ (i : Nat) x, l[i]? = some x → cs[i]? = some (.int .u32 ((x : Nat) : Int)) := by
  obtain ⟨xs, m, _, hx, hl, hn, he⟩ := DataW.trod_array ht h
  rw [cellsU32] at he
  intro i x hi
  have hik := (List.getElem?_eq_some_iff.1 hi).1
  have h1 := he i (by omega)
  rw [List.getElem?_eq_getElem (by omega)] at h1
  obtain ⟨a, e0, e1, _⟩ := DataW.trod_int Tryz.underlying151 h1
  rw [one_at e0]
  simp only [Prod.mk.injEq, DataW.agg.injEq] at hx
  have h2 := congrArg (·[i]?) hx.1
  simp only [List.getElem?_map, hi, Option.map_some] at h2
  rw [List.getElem?_eq_getElem (by omega)] at h2
  simp only [Option.map_some, Option.some.injEq] at h2
  rw [e1] at h2
  simp only [DataW.lit.injEq, Lit.int.injEq, true_and] at h2
  rw [h2]
end

theorem gStart : Tryz.prog.globalNamed "chartroom/digest.start" = some 1 := by kernel_rfl
theorem gNums : Tryz.prog.globalNamed "chartroom/digest.numbers" = some 4 := by kernel_rfl
theorem datStart {H : Type} : (Rows.laid_chartroom_digest_start : DataW H) = .agg ((stv Sha.start).map fun (x : Nat) => .lit (.int .u32 (x : Int))) := rfl
theorem datNums {H : Type} : (Rows.laid_chartroom_digest_numbers : DataW H) = .agg (Sha.K.map fun (x : Nat) => .lit (.int .u32 (x : Int))) := rfl
abbrev laid2 {H : Type} : List (String × DataW H) := [("chartroom/digest.start", Rows.laid_chartroom_digest_start), ("chartroom/digest.numbers", Rows.laid_chartroom_digest_numbers), ("bytes.ErrTooLarge", Rows.laid_bytes_ErrTooLarge)]

/-- The door's own heap meets the condition. -/
theorem door_met (os : Os) (args : Array Value) : laidMetH Tryz.prog laid2 ((World.doorLaid Tryz.prog 400 os).forCall (fun _ _ => 0) ⟨#[], args, []⟩).memory :=
  laidMetH_of_parts3 (fuel := 8) (laidMet_of_run' 8 (by kernel_rfl) (by kernel_rfl)) (by kernel_rfl) (by kernel_rfl)

theorem tabs_of_laid {W : World} (h : laidMetH Tryz.prog laid2 W) : Tabs W := by
  rw [MakeChecks.laidMetH_plain _ _ _ (by kernel_rfl)] at h
  obtain ⟨ps, ⟨g0, t0, cs0, f0, p0, q0, hg0, ht0, hv0, hd0, ⟨g1, t1, cs1, f1, p1, q1, hg1, ht1, hv1, hd1, _, _⟩, _⟩, _, _⟩ := h
  obtain rfl := Option.some.inj (gStart.symm.trans hg0)
  obtain rfl := Option.some.inj (gNums.symm.trans hg1)
  obtain rfl := Option.some.inj ((show (Tryz.prog.globals[1]?).map (·.type) = some 152 by kernel_rfl).symm.trans ht0)
  obtain rfl := Option.some.inj ((show (Tryz.prog.globals[4]?).map (·.type) = some 160 by kernel_rfl).symm.trans ht1)
  rw [datStart] at hd0
  rw [datNums] at hd1
  have s0 := trod_u32s Tryz.underlying152 rfl hd0
  have s1 := trod_u32s Tryz.underlying160 rfl hd1
  have c1 : ∀ (i : Nat) x, Sha.K[i]? = some x → W.cell? ⟨4, i, none⟩ = some (.int .u32 ((x : Nat) : Int)) := fun i x hx => by
    rw [World.var?_cell hg1 hv1 i]
    have := s1 i x hx
    simpa using this
  refine ⟨⟨?_, c1⟩, fun i x hx => ?_⟩
  · exact World.block_lt_of_cell? W _ (c1 0 _ rfl)
  · rw [World.var?_cell hg0 hv0 i]
    have := s0 i x hx
    simpa using this
section
variable {H : Type} {enc : TypeId × Value → H} {W : World}
theorem open_u8 {fuel : Nat} {cs : List Value} {x : DataW H × List MemPlace} (h : DataW.trod enc Tryz.prog W 0 (fun _ => true) true fuel 5 cs = some x) : ∃ y : Nat, cs = [.int .u8 (y : Int)] ∧ y < 256 := by
  obtain ⟨a, e0, _, w0⟩ := DataW.trod_int Tryz.underlying5 h
  have hb : 0 ≤ a ∧ a < 256 := by
    have h2 : IntKind.u8.min ≤ a ∧ a ≤ IntKind.u8.max := by simpa [Lit.wf] using w0
    have e1 : IntKind.u8.min = 0 := rfl
    have e2 : IntKind.u8.max = 255 := rfl
    omega
  exact ⟨a.toNat, by rw [e0, Int.toNat_of_nonneg hb.1], by omega⟩
/-- a slice of rows of s cells is opened, element by element. -/
theorem open_rows {α : Type} (d0 : α) {s : Nat} {R : World → α → List Value → Prop} {t e : TypeId} (ht : Tryz.prog.underlying t = some (.slice e)) (hs : Tryz.prog.cellsOf e = s) (h0 : 0 < s)
    (hel : ∀ {fuel : Nat} {cs : List Value} {x : DataW H × List MemPlace}, DataW.trod enc Tryz.prog W 0 (fun _ => true) true fuel e cs = some x → ∃ y, R W y cs ∧ cs.length = s)
    {fuel : Nat} {cs : List Value} {x : DataW H × List MemPlace} (h : DataW.trod enc Tryz.prog W 0 (fun _ => true) true fuel t cs = some x) : ∃ a n c l, cs = [.slice a n c] ∧ RS s R (fun _ => True) W a n c l := by
  rcases Deep.open_slice ht h with ⟨rfl, _⟩ | ⟨ad, len, cap, m, k, D, Pl, rfl, hb, hl, hm, hmm, _, hx⟩
  · exact ⟨none, 0, 0, [], rfl, RS.nil0 _ _ _⟩
  · simp at hmm
    subst hmm
    rw [hs] at hx
    have each : ∀ i, i < m → ∃ q : α × List Value, (∀ j u, q.2[j]? = some u → W.cell? ((ad.add (i * s)).add j) = some u) ∧ R W q.1 q.2 ∧ q.2.length = s := by
      intro i hi
      obtain ⟨cs', h1, h2⟩ := hx i hi
      obtain ⟨_, hlen, hcell⟩ := World.cells?_some h1
      obtain ⟨y, hy, hl4⟩ := hel h2
      refine ⟨(y, cs'), fun j u hu => ?_, hy, hl4⟩
      have hj := (List.getElem?_eq_some_iff.1 hu).1
      have := hcell j (by rw [← hlen]; exact hj)
      rw [this]
      simpa using hu
    have : Inhabited (α × List Value) := ⟨(d0, [])⟩
    obtain ⟨T, hT⟩ := Deep.choose_lt each
    have hrs : ∀ r ∈ (List.range len).map (fun i => (T i).2), r.length = s := fun r hr => by
      obtain ⟨i, hi, rfl⟩ := List.mem_map.1 hr
      exact (hT i (by have := List.mem_range.1 hi; omega)).2.2
    refine ⟨_, len, m, (List.range len).map (fun i => (T i).1), rfl, by simp, fun _ _ _ => trivial, (List.range len).map (fun i => (T i).2), ⟨?_, hl, hm, (fun e => by cases e), fun hn => ?_⟩, ⟨by simp, hrs, fun i e r he hr => ?_⟩⟩
    · rw [flat_len hrs]; simp
    · obtain ⟨b, off, spot⟩ := ad
      have hrow : ∀ i, i < len → ∀ j, j < s → ∃ u, (T i).2[j]? = some u := fun i hi j hj => ⟨_, List.getElem?_eq_getElem (by rw [(hT i (by omega)).2.2]; exact hj)⟩
      obtain ⟨u0, hu0⟩ := hrow 0 hn 0 h0
      have c0 := (hT 0 (by omega)).1 0 u0 hu0
      have hspot : spot = none := by simpa [Addr.add] using World.cell?_spot c0
      subst hspot
      have hbl : b < W.heap.size := World.block_lt_of_cell? W _ (by simpa [Addr.add] using c0)
      refine ⟨b, off, rfl, hbl, fun j u hj => ?_⟩
      have hjl := (List.getElem?_eq_some_iff.1 hj).1
      rw [flat_len hrs] at hjl
      simp only [List.length_map, List.length_range] at hjl
      have hi : j / s < len := Nat.div_lt_of_lt_mul (by rw [Nat.mul_comm]; exact hjl)
      have hjm := Nat.mod_lt j h0
      have hdm : j / s * s + j % s = j := by rw [Nat.mul_comm]; exact Nat.div_add_mod j s
      obtain ⟨v, hv⟩ := hrow (j / s) hi (j % s) hjm
      have hg := flat_get (i := j / s) (j := j % s) hrs (r := (T (j / s)).2) (by simp [hi]) hv
      rw [hdm, hj] at hg
      cases hg
      have := (hT (j / s) (by omega)).1 _ _ hv
      rw [Addr.add_lit, Addr.add_lit] at this
      rw [show off + j = off + j / s * s + j % s by omega]
      exact this
    · have hi : i < len := by have := (List.getElem?_eq_some_iff.1 he).1; simpa using this
      rw [List.getElem?_map, List.getElem?_range hi] at he hr
      simp at he hr
      subst he hr
      exact (hT i (by omega)).2.1

def DR (_ : World) (d : List Nat) (r : List Value) : Prop := r = bv d ∧ d.length = 32 ∧ ∀ u ∈ d, u < 256
theorem ds_of_rs {a : Option Addr} {n c : Nat} {l : List (List Nat)} (h : RS 32 DR (fun _ => True) W a n c l) : DS W a n c l := by
  refine ⟨h.len, h.le, h.max, fun e => (h.nil' e).1, fun hn ad e => ?_, fun x hx => ?_⟩
  · obtain ⟨rows, hR, hO⟩ := h.rows
    obtain ⟨b, off, e2, hlt, hc⟩ := hR.cells hn
    rw [e] at e2
    cases e2
    refine ⟨b, off, rfl, hlt, fun i x hx => ?_⟩
    obtain ⟨r, _, hr, _, hf⟩ := hO.get hx
    intro j u hj
    rw [Nat.add_assoc, Nat.mul_comm 32 i]
    exact hc _ u (hf j u (by rw [hr.1]; exact hj))
  · obtain ⟨i, hi, e⟩ := List.getElem_of_mem hx
    obtain ⟨_, _, r, _, _, _, hr, _⟩ := h.get (List.getElem?_eq_some_iff.2 ⟨hi, e⟩)
    exact hr.2
theorem open_digs {fuel : Nat} {cs : List Value} {x : DataW H × List MemPlace} (h : DataW.trod enc Tryz.prog W 0 (fun _ => true) true fuel 129 cs = some x) : ∃ a n c l, cs = [.slice a n c] ∧ DS W a n c l := by
  obtain ⟨a, n, c, l, e, hR⟩ := open_rows (R := DR) [] Tryz.underlying129 cells35 (by decide) (fun h => by
    obtain ⟨D, e, h1, h2⟩ := open_digest h
    exact ⟨D, ⟨e, h1, h2⟩, by rw [e, bv_length, h1]⟩) h
  exact ⟨a, n, c, l, e, ds_of_rs hR⟩

theorem len_one : ∀ {l : List Value}, l.length = 1 → ∃ u, l = [u]
  | [u], _ => ⟨u, rfl⟩
theorem open_rt {fuel : Nat} {cs : List Value} {x : DataW H × List MemPlace} (h : DataW.trod enc Tryz.prog W 0 (fun _ => true) true fuel 40 cs = some x) : ∃ y : Rt, OkQ y ∧ cs = rC y := by
  obtain ⟨xs, n, _, rfl, hl, hlen, hf⟩ := DataW.trod_struct Tryz.underlying40 h
  rw [cellsRt] at hl
  match xs, hlen with
  | [y0, y1, y2, y3], _ =>
    have h0 : DataW.trod enc Tryz.prog W 0 (fun _ => true) true n 3 ((cs.drop 0).take (Tryz.prog.cellsOf 3)) = some y0 := hf 0 _ rfl
    rw [cellsInt] at h0
    have h1 : DataW.trod enc Tryz.prog W 0 (fun _ => true) true n 36 ((cs.drop 1).take (Tryz.prog.cellsOf 36)) = some y1 := hf 1 _ rfl
    rw [cells35] at h1
    have h2 : DataW.trod enc Tryz.prog W 0 (fun _ => true) true n 36 ((cs.drop 33).take (Tryz.prog.cellsOf 36)) = some y2 := hf 2 _ rfl
    rw [cells35] at h2
    have h3 : DataW.trod enc Tryz.prog W 0 (fun _ => true) true n 38 ((cs.drop 65).take (Tryz.prog.cellsOf 38)) = some y3 := hf 3 _ rfl
    rw [cellsSig] at h3
    obtain ⟨no, e0, i0⟩ := open_int1 h0
    obtain ⟨D, e1, hD, hDu⟩ := open_digest h1
    obtain ⟨E, e2, hE, hEu⟩ := open_digest h2
    obtain ⟨ys, n4, _, _, hl4, hlen4, hf4⟩ := DataW.trod_struct Tryz.underlying38 h3
    match ys, hlen4 with
    | [z0, z1], _ =>
      have g0 : DataW.trod enc Tryz.prog W 0 (fun _ => true) true n4 3 ((((cs.drop 65).take 2).drop 0).take (Tryz.prog.cellsOf 3)) = some z0 := hf4 0 _ rfl
      rw [cellsInt] at g0
      have g1 : DataW.trod enc Tryz.prog W 0 (fun _ => true) true n4 3 ((((cs.drop 65).take 2).drop 1).take (Tryz.prog.cellsOf 3)) = some z1 := hf4 1 _ rfl
      rw [cellsInt] at g1
      obtain ⟨R, e4, i4⟩ := open_int1 g0
      obtain ⟨S, e5, i5⟩ := open_int1 g1
      have e45 : (cs.drop 65).take 2 = [.int .i64 R, .int .i64 S] := by
        clear h0 h1 h2 h3 g0 g1 hf hf4 e0 e1 e2
        rw [cellsSig] at hl4
        obtain ⟨u, v, huv⟩ := len_two hl4
        rw [huv] at e4 e5 ⊢
        simp at e4 e5
        rw [e4, e5]
      have q67 : cs.drop 67 = [] := List.drop_eq_nil_of_le (by omega)
      have q65 : cs.drop 65 = [.int .i64 R, .int .i64 S] := by rw [drop_parts cs 65 2 67 rfl, e45, q67]; rfl
      have q33 : cs.drop 33 = bv E ++ [.int .i64 R, .int .i64 S] := by rw [drop_parts cs 33 32 65 rfl, e2, q65]
      have q1 : cs.drop 1 = bv D ++ (bv E ++ [.int .i64 R, .int .i64 S]) := by rw [drop_parts cs 1 32 33 rfl, e1, q33]
      have q0 : cs.drop 0 = [.int .i64 no] ++ (bv D ++ (bv E ++ [.int .i64 R, .int .i64 S])) := by rw [drop_parts cs 0 1 1 rfl, e0, q1]
      exact ⟨⟨no, D, E, R, S⟩, ⟨i0, hD, hDu, hE, hEu, i4, i5⟩, q0⟩
theorem open_rts {fuel : Nat} {cs : List Value} {x : DataW H × List MemPlace} (h : DataW.trod enc Tryz.prog W 0 (fun _ => true) true fuel 25 cs = some x) : ∃ a n c l, cs = [.slice a n c] ∧ QS (fun _ => True) W a n c l :=
  open_rows (R := QV) Go.Dr.zeroR Tryz.underlying25 cellsRt (by decide) (fun h => by
    obtain ⟨y, ok, e⟩ := open_rt h
    exact ⟨y, ⟨ok, e⟩, by rw [e, rC_length ok]⟩) h
theorem open_ls {fuel : Nat} {cs : List Value} {x : DataW H × List MemPlace} (h : DataW.trod enc Tryz.prog W 0 (fun _ => true) true fuel 57 cs = some x) : ∃ y : Lst, OkG y ∧ cs = gC y := by
  obtain ⟨xs, n, _, rfl, hl, hlen, hf⟩ := DataW.trod_struct Tryz.underlying57 h
  rw [cellsLs] at hl
  match xs, hlen with
  | [y0, y1, y2, y3, y4], _ =>
    have h0 : DataW.trod enc Tryz.prog W 0 (fun _ => true) true n 3 ((cs.drop 0).take (Tryz.prog.cellsOf 3)) = some y0 := hf 0 _ rfl
    rw [cellsInt] at h0
    have h1 : DataW.trod enc Tryz.prog W 0 (fun _ => true) true n 3 ((cs.drop 1).take (Tryz.prog.cellsOf 3)) = some y1 := hf 1 _ rfl
    rw [cellsInt] at h1
    have h2 : DataW.trod enc Tryz.prog W 0 (fun _ => true) true n 3 ((cs.drop 2).take (Tryz.prog.cellsOf 3)) = some y2 := hf 2 _ rfl
    rw [cellsInt] at h2
    have h3 : DataW.trod enc Tryz.prog W 0 (fun _ => true) true n 3 ((cs.drop 3).take (Tryz.prog.cellsOf 3)) = some y3 := hf 3 _ rfl
    rw [cellsInt] at h3
    have h4 : DataW.trod enc Tryz.prog W 0 (fun _ => true) true n 4 ((cs.drop 4).take (Tryz.prog.cellsOf 4)) = some y4 := hf 4 _ rfl
    rw [cellsBo] at h4
    obtain ⟨a, e0, i0⟩ := open_int1 h0
    obtain ⟨b, e1, i1⟩ := open_int1 h1
    obtain ⟨c, e2, i2⟩ := open_int1 h2
    obtain ⟨d, e3, i3⟩ := open_int1 h3
    obtain ⟨g, e4, _⟩ := DataW.trod_bool Tryz.underlying4 h4
    have q5 : cs.drop 5 = [] := List.drop_eq_nil_of_le (by omega)
    have q4 : cs.drop 4 = [.bool g] := by rw [drop_parts cs 4 1 5 rfl, e4, q5]; rfl
    have q3 : cs.drop 3 = [.int .i64 d, .bool g] := by rw [drop_parts cs 3 1 4 rfl, e3, q4]; rfl
    have q2 : cs.drop 2 = [.int .i64 c, .int .i64 d, .bool g] := by rw [drop_parts cs 2 1 3 rfl, e2, q3]; rfl
    have q1 : cs.drop 1 = [.int .i64 b, .int .i64 c, .int .i64 d, .bool g] := by rw [drop_parts cs 1 1 2 rfl, e1, q2]; rfl
    have q0 : cs.drop 0 = [.int .i64 a, .int .i64 b, .int .i64 c, .int .i64 d, .bool g] := by rw [drop_parts cs 0 1 1 rfl, e0, q1]; rfl
    exact ⟨⟨a, b, c, d, g⟩, ⟨i0, i1, i2, i3⟩, q0⟩
theorem open_lss {fuel : Nat} {cs : List Value} {x : DataW H × List MemPlace} (h : DataW.trod enc Tryz.prog W 0 (fun _ => true) true fuel 22 cs = some x) : ∃ a n c l, cs = [.slice a n c] ∧ GS (fun _ => True) W a n c l :=
  open_rows (R := GV) Go.Dr.zeroL Tryz.underlying22 cellsLs (by decide) (fun h => by
    obtain ⟨y, ok, e⟩ := open_ls h
    exact ⟨y, ⟨ok, e⟩, by rw [e]; rfl⟩) h
theorem open_boo {fuel : Nat} {cs : List Value} {x : DataW H × List MemPlace} (h : DataW.trod enc Tryz.prog W 0 (fun _ => true) true fuel 4 cs = some x) : ∃ g, cs = [.bool g] := by
  obtain ⟨g, e, _⟩ := DataW.trod_bool Tryz.underlying4 h
  exact ⟨g, e⟩
theorem cellsDr : Tryz.prog.cellsOf 27 = 3 := by kernel_rfl
theorem cellsLl : Tryz.prog.cellsOf 22 = 1 := by kernel_rfl
theorem cellsRl : Tryz.prog.cellsOf 25 = 1 := by kernel_rfl
theorem open_dir {fuel : Nat} {cs : List Value} {x : DataW H × List MemPlace} (h : DataW.trod enc Tryz.prog W 0 (fun _ => true) true fuel 27 cs = some x) : ∃ (D : Dir) (la : Option Addr) (ln lc : Nat) (ra : Option Addr) (rn rc : Nat), cs = dirC D.priv la ln lc ra rn rc ∧ DM (fun _ => True) W D la ln lc ra rn rc := by
  obtain ⟨xs, n, _, rfl, hl, hlen, hf⟩ := DataW.trod_struct Tryz.underlying27 h
  rw [cellsDr] at hl
  match xs, hlen with
  | [y0, y1, y2], _ =>
    have h0 : DataW.trod enc Tryz.prog W 0 (fun _ => true) true n 3 ((cs.drop 0).take (Tryz.prog.cellsOf 3)) = some y0 := hf 0 _ rfl
    rw [cellsInt] at h0
    have h1 : DataW.trod enc Tryz.prog W 0 (fun _ => true) true n 22 ((cs.drop 1).take (Tryz.prog.cellsOf 22)) = some y1 := hf 1 _ rfl
    rw [cellsLl] at h1
    have h2 : DataW.trod enc Tryz.prog W 0 (fun _ => true) true n 25 ((cs.drop 2).take (Tryz.prog.cellsOf 25)) = some y2 := hf 2 _ rfl
    rw [cellsRl] at h2
    obtain ⟨p, e0, i0⟩ := open_int1 h0
    obtain ⟨la, ln, lc, l, e1, hG⟩ := open_lss h1
    obtain ⟨ra, rn, rc, r, e2, hQ⟩ := open_rts h2
    have q3 : cs.drop 3 = [] := List.drop_eq_nil_of_le (by omega)
    have q2 : cs.drop 2 = [.slice ra rn rc] := by rw [drop_parts cs 2 1 3 rfl, e2, q3]; rfl
    have q1 : cs.drop 1 = [.slice la ln lc, .slice ra rn rc] := by rw [drop_parts cs 1 1 2 rfl, e1, q2]; rfl
    have q0 : cs.drop 0 = [.int .i64 p, .slice la ln lc, .slice ra rn rc] := by rw [drop_parts cs 0 1 1 rfl, e0, q1]; rfl
    exact ⟨⟨p, l, r⟩, la, ln, lc, ra, rn, rc, q0, i0, hG, hQ⟩
end
end Go.Proofs.YthnfjkgiaanmhaaGreatDoor
