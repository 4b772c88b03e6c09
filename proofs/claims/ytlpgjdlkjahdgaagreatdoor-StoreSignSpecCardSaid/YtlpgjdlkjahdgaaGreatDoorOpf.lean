/- the arguments of a row of chapter 30 are opened; what the laid variables give -/
import Derived.Test.YtlpgjdlkjahdgaaGreatDoorRows
import Derived.Test.YtlpgjdlkjahdgaaGreatDoorFw3
import Derived.Test.YtlpgjdlkjahdgaaGreatDoorSve
import Derived.Test.YtlpgjdlkjahdgaaGreatDoorKey
import Derived.ProofKit
import Derived.LaidMore
import Derived.OpenShut
import Derived.ShutString
import Derived.ChangeOld
import Derived.Below
import Derived.Carry
import Derived.Lib.SmallJoins
import Derived.Deep.Slices
namespace Go.Proofs.YtlpgjdlkjahdgaaGreatDoor
open Go.ChangeShapes Go.WideShapes Go.ChangeAt Go.RowKit Go.Joins Go.Mem
open Go.Sto (Ent Lg St)
theorem cellsLog : Tryz.prog.cellsOf 84 = 2 := by kernel_rfl
theorem cellsSto : Tryz.prog.cellsOf 24 = 3 := by kernel_rfl
theorem cellsSlE : Tryz.prog.cellsOf 36 = 1 := by kernel_rfl
theorem cellsSlL : Tryz.prog.cellsOf 22 = 1 := by kernel_rfl
theorem own : ownKnob Tryz.prog.godebug = none := by kernel_rfl
theorem laidOut : laidOutB Tryz.prog = true := by kernel_rfl
theorem cellsU8 : Tryz.prog.cellsOf 5 = 1 := by kernel_rfl
theorem cellsU32 : Tryz.prog.cellsOf 167 = 1 := by kernel_rfl
theorem cellsInt : Tryz.prog.cellsOf 3 = 1 := by kernel_rfl
theorem cellsHead : Tryz.prog.cellsOf 47 = 37 := by kernel_rfl
theorem cellsSig : Tryz.prog.cellsOf 45 = 2 := by kernel_rfl
theorem wf_i64 {n : Int} (h : (Lit.int .i64 n).wf = true) : I64 n := by
  have := bounds_i64 h
  unfold I64; omega

section
variable {H : Type} {enc : TypeId × Value → H} {W : World} {spare held : Bool}

theorem one_at {cs : List Value} {i : Nat} {v : Value} (h : (cs.drop (i * 1)).take 1 = [v]) : cs[i]? = some v := by
  rw [Nat.mul_one] at h
  have := congrArg (·[0]?) h
  simpa using this

theorem open_digest {fuel : Nat} {cs : List Value} {x : DataW H × List MemPlace} (h : DataW.trod enc Tryz.prog W 0 (fun _ => true) true fuel 43 cs = some x) :
    ∃ D : List Nat, cs = bv D ∧ D.length = 32 ∧ ∀ u ∈ D, u < 256 := by
  obtain ⟨xs, m, _, _, hl, hn, he⟩ := DataW.trod_array Tryz.underlying43 h
  rw [cells35] at hl
  rw [cellsU8] at he
  have each : ∀ i, i < 32 → ∃ y : Nat, cs[i]? = some (.int .u8 (y : Int)) ∧ y < 256 := by
    intro i hi
    have h1 := he i hi
    rw [List.getElem?_eq_getElem (by omega)] at h1
    obtain ⟨a, e0, _, w0⟩ := DataW.trod_int Tryz.underlying5 h1
    have hb : 0 ≤ a ∧ a < 256 := by
      have h2 : IntKind.u8.min ≤ a ∧ a ≤ IntKind.u8.max := by simpa [Lit.wf] using w0
      have e1 : IntKind.u8.min = 0 := rfl
      have e2 : IntKind.u8.max = 255 := rfl
      omega
    exact ⟨a.toNat, by rw [one_at e0, Int.toNat_of_nonneg hb.1], by omega⟩
  obtain ⟨f, hf⟩ := Deep.choose_lt each
  refine ⟨(List.range 32).map f, ?_, by simp, fun u hu => ?_⟩
  · apply List.ext_getElem?
    intro i
    by_cases hi : i < 32
    · rw [(hf i hi).1]
      simp [bv, hi]
    · rw [List.getElem?_eq_none (by omega), List.getElem?_eq_none (by simp [bv]; omega)]
  · obtain ⟨i, hi, rfl⟩ := List.mem_map.1 hu
    exact (hf i (List.mem_range.1 hi)).2

theorem open_int1 {fuel : Nat} {cs : List Value} {x : DataW H × List MemPlace} (h : DataW.trod enc Tryz.prog W 0 (fun _ => true) true fuel 3 cs = some x) : ∃ a : Int, cs = [.int .i64 a] ∧ I64 a := by
  obtain ⟨a, e, _, w⟩ := DataW.trod_int Tryz.underlying3 h
  exact ⟨a, e, wf_i64 w⟩

theorem len_two : ∀ {l : List Value}, l.length = 2 → ∃ u v, l = [u, v]
  | [u, v], _ => ⟨u, v, rfl⟩
theorem drop_parts (cs : List Value) (i k j : Nat) (hj : i + k = j) : cs.drop i = (cs.drop i).take k ++ cs.drop j := by
  rw [← hj, ← List.drop_drop, List.take_append_drop]

theorem open_head {fuel : Nat} {cs : List Value} {x : DataW H × List MemPlace} (h : DataW.trod enc Tryz.prog W 0 (fun _ => true) true fuel 47 cs = some x) :
    ∃ (st fo no R S : Int) (D : List Nat), cs = headC st fo no D R S ∧ I64 st ∧ I64 fo ∧ I64 no ∧ I64 R ∧ I64 S ∧ D.length = 32 ∧ ∀ u ∈ D, u < 256 := by
  obtain ⟨xs, n, _, rfl, hl, hlen, hf⟩ := DataW.trod_struct Tryz.underlying47 h
  rw [cellsHead] at hl
  match xs, hlen with
  | [y0, y1, y2, y3, y4], _ =>
    have h0 : DataW.trod enc Tryz.prog W 0 (fun _ => true) true n 3 ((cs.drop 0).take (Tryz.prog.cellsOf 3)) = some y0 := hf 0 _ rfl
    rw [cellsInt] at h0
    have h1 : DataW.trod enc Tryz.prog W 0 (fun _ => true) true n 3 ((cs.drop 1).take (Tryz.prog.cellsOf 3)) = some y1 := hf 1 _ rfl
    rw [cellsInt] at h1
    have h2 : DataW.trod enc Tryz.prog W 0 (fun _ => true) true n 3 ((cs.drop 2).take (Tryz.prog.cellsOf 3)) = some y2 := hf 2 _ rfl
    rw [cellsInt] at h2
    have h3 : DataW.trod enc Tryz.prog W 0 (fun _ => true) true n 43 ((cs.drop 3).take (Tryz.prog.cellsOf 43)) = some y3 := hf 3 _ rfl
    rw [cells35] at h3
    have h4 : DataW.trod enc Tryz.prog W 0 (fun _ => true) true n 45 ((cs.drop 35).take (Tryz.prog.cellsOf 45)) = some y4 := hf 4 _ rfl
    rw [cellsSig] at h4
    obtain ⟨st, e0, i0⟩ := open_int1 h0
    obtain ⟨fo, e1, i1⟩ := open_int1 h1
    obtain ⟨no, e2, i2⟩ := open_int1 h2
    obtain ⟨D, e3, hD⟩ := open_digest h3
    obtain ⟨ys, n4, _, _, hl4, hlen4, hf4⟩ := DataW.trod_struct Tryz.underlying45 h4
    match ys, hlen4 with
    | [z0, z1], _ =>
      have g0 : DataW.trod enc Tryz.prog W 0 (fun _ => true) true n4 3 ((((cs.drop 35).take 2).drop 0).take (Tryz.prog.cellsOf 3)) = some z0 := hf4 0 _ rfl
      rw [cellsInt] at g0
      have g1 : DataW.trod enc Tryz.prog W 0 (fun _ => true) true n4 3 ((((cs.drop 35).take 2).drop 1).take (Tryz.prog.cellsOf 3)) = some z1 := hf4 1 _ rfl
      rw [cellsInt] at g1
      obtain ⟨R, e4, i4⟩ := open_int1 g0
      obtain ⟨S, e5, i5⟩ := open_int1 g1
      refine ⟨st, fo, no, R, S, D, ?_, i0, i1, i2, i4, i5, hD⟩
      have e45 : (cs.drop 35).take 2 = [.int .i64 R, .int .i64 S] := by
        clear h0 h1 h2 h3 h4 g0 g1 hf hf4 e0 e1 e2 e3
        rw [cellsSig] at hl4
        obtain ⟨u, v, huv⟩ := len_two hl4
        rw [huv] at e4 e5 ⊢
        simp at e4 e5
        rw [e4, e5]
      have q37 : cs.drop 37 = [] := List.drop_eq_nil_of_le (by omega)
      have q35 : cs.drop 35 = [.int .i64 R, .int .i64 S] := by rw [drop_parts cs 35 2 37 rfl, e45, q37]; rfl
      have q3 : cs.drop 3 = bv D ++ [.int .i64 R, .int .i64 S] := by rw [drop_parts cs 3 32 35 rfl, e3, q35]
      have q2 : cs.drop 2 = [.int .i64 no] ++ (bv D ++ [.int .i64 R, .int .i64 S]) := by rw [drop_parts cs 2 1 3 rfl, e2, q3]
      have q1 : cs.drop 1 = [.int .i64 fo] ++ ([.int .i64 no] ++ (bv D ++ [.int .i64 R, .int .i64 S])) := by rw [drop_parts cs 1 1 2 rfl, e1, q2]
      have q0 : cs.drop 0 = [.int .i64 st] ++ ([.int .i64 fo] ++ ([.int .i64 no] ++ (bv D ++ [.int .i64 R, .int .i64 S]))) := by rw [drop_parts cs 0 1 1 rfl, e0, q1]
      exact q0

theorem trod_u32s {t : TypeId} {k fuel : Nat} {l : List Nat} {cs : List Value} {p : List MemPlace} (ht : Tryz.prog.underlying t = some (.array k 167)) (hk : l.length = k)
    (h : DataW.trod enc Tryz.prog W 0 (fun _ => spare) held fuel t cs = some (.agg (l.map fun (x : Nat) => .lit (.int .u32 (x : Int))), p)) : ∀ (i : Nat) x, l[i]? = some x → cs[i]? = some (.int .u32 ((x : Nat) : Int)) := by
  obtain ⟨xs, m, _, hx, hl, hn, he⟩ := DataW.trod_array ht h
  rw [cellsU32] at he
  intro i x hi
  have hik := (List.getElem?_eq_some_iff.1 hi).1
  have h1 := he i (by omega)
  rw [List.getElem?_eq_getElem (by omega)] at h1
  obtain ⟨a, e0, e1, _⟩ := DataW.trod_int Tryz.underlying167 h1
  rw [one_at e0]
  simp only [Prod.mk.injEq, DataW.agg.injEq] at hx
  have h2 := congrArg (·[i]?) hx.1
  simp only [List.getElem?_map, hi, Option.map_some] at h2
  rw [List.getElem?_eq_getElem (by omega)] at h2
  simp only [Option.map_some, Option.some.injEq] at h2
  rw [e1] at h2
  simp only [DataW.lit.injEq, Lit.int.injEq, true_and] at h2
  rw [h2]
end

theorem gStart : Tryz.prog.globalNamed "chartroom/digest.start" = some 0 := by kernel_rfl
theorem gNums : Tryz.prog.globalNamed "chartroom/digest.numbers" = some 1 := by kernel_rfl
theorem datStart {H : Type} : (Rows.laid_chartroom_digest_start : DataW H) = .agg ((stv Sha.start).map fun (x : Nat) => .lit (.int .u32 (x : Int))) := rfl
theorem datNums {H : Type} : (Rows.laid_chartroom_digest_numbers : DataW H) = .agg (Sha.K.map fun (x : Nat) => .lit (.int .u32 (x : Int))) := rfl
abbrev laid2 {H : Type} : List (String × DataW H) := [("chartroom/digest.start", Rows.laid_chartroom_digest_start), ("chartroom/digest.numbers", Rows.laid_chartroom_digest_numbers)]

/-- The door's own heap meets the condition. -/
theorem door_met (os : Os) (args : Array Value) : laidMetH Tryz.prog laid2 ((World.doorLaid Tryz.prog 400 os).forCall (fun _ _ => 0) ⟨#[], args, []⟩).memory :=
  laidMetH_of_parts3 (fuel := 8) (laidMet_of_run' 8 (by kernel_rfl) (by kernel_rfl)) (by kernel_rfl) (by kernel_rfl)

theorem tabs_of_laid {W : World} (h : laidMetH Tryz.prog laid2 W) : Tabs W := by
  rw [MakeChecks.laidMetH_plain _ _ _ (by kernel_rfl)] at h
  obtain ⟨ps, ⟨g0, t0, cs0, f0, p0, q0, hg0, ht0, hv0, hd0, ⟨g1, t1, cs1, f1, p1, q1, hg1, ht1, hv1, hd1, _, _⟩, _⟩, _, _⟩ := h
  obtain rfl := Option.some.inj (gStart.symm.trans hg0)
  obtain rfl := Option.some.inj (gNums.symm.trans hg1)
  obtain rfl := Option.some.inj ((show (Tryz.prog.globals[0]?).map (·.type) = some 168 by kernel_rfl).symm.trans ht0)
  obtain rfl := Option.some.inj ((show (Tryz.prog.globals[1]?).map (·.type) = some 214 by kernel_rfl).symm.trans ht1)
  rw [datStart] at hd0
  rw [datNums] at hd1
  have s0 := trod_u32s Tryz.underlying168 rfl hd0
  have s1 := trod_u32s Tryz.underlying214 rfl hd1
  have c1 : ∀ (i : Nat) x, Sha.K[i]? = some x → W.cell? ⟨1, i, none⟩ = some (.int .u32 ((x : Nat) : Int)) := fun i x hx => by
    rw [World.var?_cell hg1 hv1 i]
    have := s1 i x hx
    simpa using this
  refine ⟨⟨?_, c1⟩, fun i x hx => ?_⟩
  · exact World.block_lt_of_cell? W _ (c1 0 _ rfl)
  · rw [World.var?_cell hg0 hv0 i]
    have := s0 i x hx
    simpa using this
theorem cellsSl : Tryz.prog.cellsOf 33 = 1 := by kernel_rfl
theorem cellsSlD : Tryz.prog.cellsOf 58 = 1 := by kernel_rfl
theorem cellsSlH : Tryz.prog.cellsOf 53 = 1 := by kernel_rfl
theorem cellsBo : Tryz.prog.cellsOf 4 = 1 := by kernel_rfl
theorem cellsEnt : Tryz.prog.cellsOf 81 = 35 := by kernel_rfl
section
variable {H : Type} {enc : TypeId × Value → H} {W : World}
theorem open_u8 {fuel : Nat} {cs : List Value} {x : DataW H × List MemPlace} (h : DataW.trod enc Tryz.prog W 0 (fun _ => true) true fuel 5 cs = some x) : ∃ y : Nat, cs = [.int .u8 (y : Int)] ∧ y < 256 := by
  obtain ⟨a, e0, _, w0⟩ := DataW.trod_int Tryz.underlying5 h
  have hb : 0 ≤ a ∧ a < 256 := by
    have h2 : IntKind.u8.min ≤ a ∧ a ≤ IntKind.u8.max := by simpa [Lit.wf] using w0
    have e1 : IntKind.u8.min = 0 := rfl
    have e2 : IntKind.u8.max = 255 := rfl
    omega
  exact ⟨a.toNat, by rw [e0, Int.toNat_of_nonneg hb.1], by omega⟩
theorem open_bytes' {fuel : Nat} {cs : List Value} {x : DataW H × List MemPlace} (h : DataW.trod enc Tryz.prog W 0 (fun _ => true) true fuel 33 cs = some x) : ∃ a n c l, cs = [.slice a n c] ∧ BW W a n c l := by
  rcases Deep.open_slice Tryz.underlying33 h with ⟨rfl, _⟩ | ⟨ad, len, cap, m, k, D, Pl, rfl, hb, hl, hm, hmm, _, hx⟩
  · exact ⟨none, 0, 0, [], rfl, .inl ⟨rfl, Nat.le_refl _, by decide, fun _ => ⟨rfl, rfl⟩, (fun ad e => by cases e), (fun x hx => by cases hx)⟩⟩
  · simp at hmm
    subst hmm
    rw [cellsU8] at hx
    by_cases h0 : m = 0
    · subst h0
      obtain rfl : len = 0 := by omega
      exact ⟨some ad, 0, 0, [], rfl, .inr ⟨rfl, rfl, rfl, ad, rfl⟩⟩
    · have each : ∀ i, i < m → ∃ y : Nat, W.cell? (ad.add i) = some (.int .u8 (y : Int)) ∧ y < 256 := by
        intro i hi
        obtain ⟨cs', h1, h2⟩ := hx i hi
        rw [Nat.mul_one] at h1
        obtain ⟨_, hlen, hcell⟩ := World.cells?_some h1
        obtain ⟨y, rfl, hy⟩ := open_u8 h2
        have e0 := hcell 0 (by omega)
        have z : ∀ q : Addr, q.add 0 = q := fun q => by unfold Addr.add; cases q; simp
        rw [z] at e0
        exact ⟨y, by simpa using e0, hy⟩
      obtain ⟨T, hT⟩ := Deep.choose_lt each
      obtain ⟨b, off, spot⟩ := ad
      have c0 := (hT 0 (by omega)).1
      have hspot : spot = none := by simpa [Addr.add] using World.cell?_spot c0
      subst hspot
      have hbl : b < W.heap.size := World.block_lt_of_cell? W _ (by simpa [Addr.add] using c0)
      refine ⟨_, len, m, (List.range len).map T, rfl, .inl ⟨by simp, hl, by unfold maxLen at hm; omega, (fun e => by cases e), fun ad e => ?_, fun y hy => ?_⟩⟩
      · cases e
        refine ⟨b, off, rfl, hbl, fun i y hy => ?_⟩
        have hi : i < len := by have := (List.getElem?_eq_some_iff.1 hy).1; simpa using this
        have hti : y = T i := by rw [List.getElem?_map, List.getElem?_range hi] at hy; simpa using hy.symm
        subst hti
        have g0 := (hT i (by omega)).1
        rwa [Addr.add_lit] at g0
      · obtain ⟨i, hi, rfl⟩ := List.mem_map.1 hy
        exact (hT i (by have := List.mem_range.1 hi; omega)).2

/-- a slice of rows of s cells is opened, element by element. -/
theorem open_rows {α : Type} (d0 : α) {s : Nat} {R : World → α → List Value → Prop} {t e : TypeId} (ht : Tryz.prog.underlying t = some (.slice e)) (hs : Tryz.prog.cellsOf e = s) (h0 : 0 < s)
    (hel : ∀ {fuel : Nat} {cs : List Value} {x : DataW H × List MemPlace}, DataW.trod enc Tryz.prog W 0 (fun _ => true) true fuel e cs = some x → ∃ y, R W y cs ∧ cs.length = s)
    {fuel : Nat} {cs : List Value} {x : DataW H × List MemPlace} (h : DataW.trod enc Tryz.prog W 0 (fun _ => true) true fuel t cs = some x) : ∃ a n c l, cs = [.slice a n c] ∧ RS s R (fun _ => True) W a n c l := by
  rcases Deep.open_slice ht h with ⟨rfl, _⟩ | ⟨ad, len, cap, m, k, D, Pl, rfl, hb, hl, hm, hmm, _, hx⟩
  · exact ⟨none, 0, 0, [], rfl, RS.nil0 _ _ _⟩
  · simp at hmm
    subst hmm
    rw [hs] at hx
    have each : ∀ i, i < m → ∃ q : α × List Value, (∀ j u, q.2[j]? = some u → W.cell? ((ad.add (i * s)).add j) = some u) ∧ R W q.1 q.2 ∧ q.2.length = s := by
      intro i hi
      obtain ⟨cs', h1, h2⟩ := hx i hi
      obtain ⟨_, hlen, hcell⟩ := World.cells?_some h1
      obtain ⟨y, hy, hl4⟩ := hel h2
      refine ⟨(y, cs'), fun j u hu => ?_, hy, hl4⟩
      have hj := (List.getElem?_eq_some_iff.1 hu).1
      have := hcell j (by rw [← hlen]; exact hj)
      rw [this]
      simpa using hu
    have : Inhabited (α × List Value) := ⟨(d0, [])⟩
    obtain ⟨T, hT⟩ := Deep.choose_lt each
    have hrs : ∀ r ∈ (List.range len).map (fun i => (T i).2), r.length = s := fun r hr => by
      obtain ⟨i, hi, rfl⟩ := List.mem_map.1 hr
      exact (hT i (by have := List.mem_range.1 hi; omega)).2.2
    refine ⟨_, len, m, (List.range len).map (fun i => (T i).1), rfl, by simp, fun _ _ _ => trivial, (List.range len).map (fun i => (T i).2), ⟨?_, hl, hm, (fun e => by cases e), fun hn => ?_⟩, ⟨by simp, hrs, fun i e r he hr => ?_⟩⟩
    · rw [flat_len hrs]; simp
    · obtain ⟨b, off, spot⟩ := ad
      have hrow : ∀ i, i < len → ∀ j, j < s → ∃ u, (T i).2[j]? = some u := fun i hi j hj => ⟨_, List.getElem?_eq_getElem (by rw [(hT i (by omega)).2.2]; exact hj)⟩
      obtain ⟨u0, hu0⟩ := hrow 0 hn 0 h0
      have c0 := (hT 0 (by omega)).1 0 u0 hu0
      have hspot : spot = none := by simpa [Addr.add] using World.cell?_spot c0
      subst hspot
      have hbl : b < W.heap.size := World.block_lt_of_cell? W _ (by simpa [Addr.add] using c0)
      refine ⟨b, off, rfl, hbl, fun j u hj => ?_⟩
      have hjl := (List.getElem?_eq_some_iff.1 hj).1
      rw [flat_len hrs] at hjl
      simp only [List.length_map, List.length_range] at hjl
      have hi : j / s < len := Nat.div_lt_of_lt_mul (by rw [Nat.mul_comm]; exact hjl)
      have hjm := Nat.mod_lt j h0
      have hdm : j / s * s + j % s = j := by rw [Nat.mul_comm]; exact Nat.div_add_mod j s
      obtain ⟨v, hv⟩ := hrow (j / s) hi (j % s) hjm
      have hg := flat_get (i := j / s) (j := j % s) hrs (r := (T (j / s)).2) (by simp [hi]) hv
      rw [hdm, hj] at hg
      cases hg
      have := (hT (j / s) (by omega)).1 _ _ hv
      rw [Addr.add_lit, Addr.add_lit] at this
      rw [show off + j = off + j / s * s + j % s by omega]
      exact this
    · have hi : i < len := by have := (List.getElem?_eq_some_iff.1 he).1; simpa using this
      rw [List.getElem?_map, List.getElem?_range hi] at he hr
      simp at he hr
      subst he hr
      exact (hT i (by omega)).2.1

theorem open_ent {fuel : Nat} {cs : List Value} {x : DataW H × List MemPlace} (h : DataW.trod enc Tryz.prog W 0 (fun _ => true) true fuel 81 cs = some x) : ∃ e : Ent, EVr W e cs ∧ cs.length = 35 := by
  obtain ⟨xs, n, _, rfl, hl, hlen, hf⟩ := DataW.trod_struct Tryz.underlying81 h
  rw [cellsEnt] at hl
  match xs, hlen with
  | [y0, y1, y2, y3], _ =>
    have h0 : DataW.trod enc Tryz.prog W 0 (fun _ => true) true n 3 ((cs.drop 0).take (Tryz.prog.cellsOf 3)) = some y0 := hf 0 _ rfl
    rw [cellsInt] at h0
    have h1 : DataW.trod enc Tryz.prog W 0 (fun _ => true) true n 43 ((cs.drop 1).take (Tryz.prog.cellsOf 43)) = some y1 := hf 1 _ rfl
    rw [cells35] at h1
    have h2 : DataW.trod enc Tryz.prog W 0 (fun _ => true) true n 33 ((cs.drop 33).take (Tryz.prog.cellsOf 33)) = some y2 := hf 2 _ rfl
    rw [cellsSl] at h2
    have h3 : DataW.trod enc Tryz.prog W 0 (fun _ => true) true n 4 ((cs.drop 34).take (Tryz.prog.cellsOf 4)) = some y3 := hf 3 _ rfl
    rw [cellsBo] at h3
    obtain ⟨ki, e0, i0⟩ := open_int1 h0
    obtain ⟨D, e1, hD, hu⟩ := open_digest h1
    obtain ⟨a, dn, dc, data, e2, hB⟩ := open_bytes' h2
    obtain ⟨g, e3, _⟩ := DataW.trod_bool Tryz.underlying4 h3
    have q35 : cs.drop 35 = [] := List.drop_eq_nil_of_le (by omega)
    have q34 : cs.drop 34 = [.bool g] := by rw [drop_parts cs 34 1 35 rfl, e3, q35]; rfl
    have q33 : cs.drop 33 = [.slice a dn dc, .bool g] := by rw [drop_parts cs 33 1 34 rfl, e2, q34]; rfl
    have q1 : cs.drop 1 = bv D ++ [.slice a dn dc, .bool g] := by rw [drop_parts cs 1 32 33 rfl, e1, q33]
    have q0 : cs.drop 0 = [.int .i64 ki] ++ (bv D ++ [.slice a dn dc, .bool g]) := by rw [drop_parts cs 0 1 1 rfl, e0, q1]
    exact ⟨⟨ki, D, data, g⟩, ⟨⟨hD, hu, i0.1, i0.2⟩, a, dn, dc, q0, hB⟩, hl⟩
theorem open_ents {fuel : Nat} {cs : List Value} {x : DataW H × List MemPlace} (h : DataW.trod enc Tryz.prog W 0 (fun _ => true) true fuel 36 cs = some x) : ∃ a n c l, cs = [.slice a n c] ∧ ESr W a n c l :=
  open_rows (R := EVr) ⟨0, [], [], false⟩ Tryz.underlying36 cellsEnt (by decide) open_ent h
theorem open_log {fuel : Nat} {cs : List Value} {x : DataW H × List MemPlace} (h : DataW.trod enc Tryz.prog W 0 (fun _ => true) true fuel 84 cs = some x) : ∃ y : Lg, LVr W y cs ∧ cs.length = 2 := by
  obtain ⟨xs, n, _, rfl, hl, hlen, hf⟩ := DataW.trod_struct Tryz.underlying84 h
  rw [cellsLog] at hl
  match xs, hlen with
  | [y0, y1], _ =>
    have h0 : DataW.trod enc Tryz.prog W 0 (fun _ => true) true n 3 ((cs.drop 0).take (Tryz.prog.cellsOf 3)) = some y0 := hf 0 _ rfl
    rw [cellsInt] at h0
    have h1 : DataW.trod enc Tryz.prog W 0 (fun _ => true) true n 36 ((cs.drop 1).take (Tryz.prog.cellsOf 36)) = some y1 := hf 1 _ rfl
    rw [cellsSlE] at h1
    obtain ⟨f, e0, i0⟩ := open_int1 h0
    obtain ⟨a, n, c, l, e1, hE⟩ := open_ents h1
    have q2 : cs.drop 2 = [] := List.drop_eq_nil_of_le (by omega)
    have q1 : cs.drop 1 = [.slice a n c] := by rw [drop_parts cs 1 1 2 rfl, e1, q2]; rfl
    have q0 : cs.drop 0 = [.int .i64 f, .slice a n c] := by rw [drop_parts cs 0 1 1 rfl, e0, q1]; rfl
    exact ⟨⟨f, l⟩, ⟨i0, a, n, c, q0, hE⟩, hl⟩
theorem open_logs {fuel : Nat} {cs : List Value} {x : DataW H × List MemPlace} (h : DataW.trod enc Tryz.prog W 0 (fun _ => true) true fuel 22 cs = some x) : ∃ a n c l, cs = [.slice a n c] ∧ LSr W a n c l :=
  open_rows (R := LVr) ⟨0, []⟩ Tryz.underlying22 cellsLog (by decide) open_log h
theorem open_store {fuel : Nat} {cs : List Value} {x : DataW H × List MemPlace} (h : DataW.trod enc Tryz.prog W 0 (fun _ => true) true fuel 24 cs = some x) : ∃ (s : St) (a : Option Addr) (n c : Nat), cs = stC s a n c ∧ SVr W a n c s := by
  obtain ⟨xs, n, _, rfl, hl, hlen, hf⟩ := DataW.trod_struct Tryz.underlying24 h
  rw [cellsSto] at hl
  match xs, hlen with
  | [y0, y1, y2], _ =>
    have h0 : DataW.trod enc Tryz.prog W 0 (fun _ => true) true n 3 ((cs.drop 0).take (Tryz.prog.cellsOf 3)) = some y0 := hf 0 _ rfl
    rw [cellsInt] at h0
    have h1 : DataW.trod enc Tryz.prog W 0 (fun _ => true) true n 3 ((cs.drop 1).take (Tryz.prog.cellsOf 3)) = some y1 := hf 1 _ rfl
    rw [cellsInt] at h1
    have h2 : DataW.trod enc Tryz.prog W 0 (fun _ => true) true n 22 ((cs.drop 2).take (Tryz.prog.cellsOf 22)) = some y2 := hf 2 _ rfl
    rw [cellsSlL] at h2
    obtain ⟨d, e0, i0⟩ := open_int1 h0
    obtain ⟨k, e1, i1⟩ := open_int1 h1
    obtain ⟨a, m, c, l, e2, hL⟩ := open_logs h2
    have q3 : cs.drop 3 = [] := List.drop_eq_nil_of_le (by omega)
    have q2 : cs.drop 2 = [.slice a m c] := by rw [drop_parts cs 2 1 3 rfl, e2, q3]; rfl
    have q1 : cs.drop 1 = [.int .i64 k, .slice a m c] := by rw [drop_parts cs 1 1 2 rfl, e1, q2]; rfl
    have q0 : cs.drop 0 = [.int .i64 d, .int .i64 k, .slice a m c] := by rw [drop_parts cs 0 1 1 rfl, e0, q1]; rfl
    exact ⟨⟨d, k, l⟩, a, m, c, q0, hL, i0, i1⟩
end
end Go.Proofs.YtlpgjdlkjahdgaaGreatDoor
