/- the law DirectoryOnce walked -/
import Derived.Test.YthnfjkgiaanmhaaDoorDiH
import Derived.Test.YthnfjkgiaanmhaaDoorSnd
import Derived.Test.YthnfjkgiaanmhaaDoorOpd
import Derived.Laws.BytesString
import Derived.Laws.BytesArg
import Derived.Laws.StructEq
import Derived.Test.YthnfjkgiaanmhaaDoorCards
import Derived.Test.YthnfjkgiaanmhaaDoorTie
import Derived.SevenTiedAt
import Derived.Deep.DeepHandedRow
import Derived.Deep.DeepWitnessRowRef
namespace Go.Proofs.YthnfjkgiaanmhaaDoor
open Go.RowKit Go.Mem
open Go.Dr (Lst Rt)

/-- an owned row of bytes. -/
def OwnY (B : Nat) (W : World) (v : Value) (l : List Nat) : Prop := W.ownsRow B 5 1 v l.length (bv l) ∧ ∀ x ∈ l, x < 256
theorem append_by {B : Nat} {w0 W : World} {v : Value} {l l2 : List Nat} {a : Addr} {m c : Nat} (ho : OwnY B W v l) (hB : B ≤ W.heap.size) (hb0 : Below B w0 W) (hm : l2.length = m) (hc : ∀ j u, (bv l2)[j]? = some u → W.cell? (a.add j) = some u) (h2 : ∀ u ∈ l2, u < 256) (hn : l.length + m ≤ 1000000000000) :
    ∃ v' W', (∀ ty, (Builtin.append_ #[56, 56] ty #[v, .slice (some a) m c]).run Tryd.prog W = .ok v' W') ∧ OwnY B W' v' (l ++ l2) ∧ Below B w0 W' := by
  obtain ⟨i0, hi, hz0, hz1, hz2⟩ := info_parts info5
  obtain ⟨v', w', hr, h3, h4, _⟩ := run_append_own (P := Tryd.prog) W B 56 0 5 i0 _ 1 1 Tryd.underlying56 hi hz0 hz1 hz2 rfl (by omega) v l.length _ ho.1 a m c (bv l2) (by rw [bv_length, hm, Nat.mul_one]) hc (bv_one l2) (by unfold maxLen; omega) (by omega) hB
  refine ⟨v', w', fun ty => ?_, ⟨?_, ?_⟩, hb0.grown h4 hB (fun r e => (World.ownsRow.lt ho.1 r e).1)⟩
  · rw [← hr]; rfl
  · rw [bv_append, List.length_append, hm]
    exact h3
  · intro x hx
    rcases List.mem_append.1 hx with hx | hx
    · exact ho.2 x hx
    · exact h2 x hx
/-- one byte behind. -/
theorem append_b1 {B : Nat} {w0 W : World} {v : Value} {l : List Nat} {x : Nat} (ho : OwnY B W v l) (hB : B ≤ W.heap.size) (hb0 : Below B w0 W) (hx : x < 256) (hn : l.length + 1 ≤ 1000000000000) :
    ∃ v' W', (∀ ty, (Builtin.append_ #[56, 56] ty #[v, .slice (some ⟨W.heap.size, 0, none⟩) 1 1]).run Tryd.prog (W.alloc (.cells #[.int .u8 (x : Int)] 5)) = .ok v' W') ∧ OwnY B W' v' (l ++ [x]) ∧ Below B w0 W' := by
  have hBk := Blk.new W 5 (bv [x])
  have hba := hb0.alloc hB (.cells (bv [x]).toArray 5)
  have ho' : OwnY B (W.alloc (.cells (bv [x]).toArray 5)) v l := ⟨World.ownsRow.alloc ho.1 _, ho.2⟩
  exact append_by (l2 := [x]) ho' (by simp; omega) hba rfl (fun j u hj => by rw [Addr.add_lit, Nat.zero_add]; exact hBk.at_ hj) (by simpa using hx) hn
theorem own_nil (B : Nat) (W : World) : OwnY B W (.slice none 0 0) [] := ⟨World.ownsRow_nil _ _ _ _, by simp⟩

theorem own_new (W : World) : OwnY W.heap.size (W.alloc (.cells #[] 5)) (.slice (some ⟨W.heap.size, 0, none⟩) 0 0) [] :=
  ⟨⟨rfl, Or.inr ⟨W.heap.size, 0, #[], rfl, Nat.le_refl _, heap_alloc_new W _, Nat.le_refl _, by unfold maxLen; omega, rfl, rfl⟩⟩, by simp⟩
/-- a byte of a number. -/
theorem num8_take {x : Int} {N k : Nat} (hN : (x % 18446744073709551616).toNat = N) (hk : k < 8) : (Go.Dr.num8 x).take (k + 1) = (Go.Dr.num8 x).take k ++ [N / 256 ^ (7 - k) % 256] := by
  have h : (Go.Dr.num8 x)[k]? = some (N / 256 ^ (7 - k) % 256) := by
    unfold Go.Dr.num8 Sha.be
    rw [hN, List.getElem?_map, List.getElem?_range hk]
    rfl
  rw [List.take_add_one, h]
  rfl
theorem num8_length (x : Int) : (Go.Dr.num8 x).length = 8 := Sha.be_length _ _
set_option maxRecDepth 20000 in
set_option maxHeartbeats 2000000 in
theorem r5bytes_any (x : Int) (w : World) :
    Calls Tryd.prog 39 #[.int .i64 x] w (fun e w' => ∃ v, e = .returned v ∧ OwnY w.heap.size w' v (Go.Dr.num8 x) ∧ Below w.heap.size w w') := by
  obtain ⟨X, hX⟩ : ∃ X, X = (fun (e : Ending) (w' : World) => ∃ v, e = .returned v ∧ OwnY w.heap.size w' v (Go.Dr.num8 x) ∧ Below w.heap.size w w') := ⟨_, rfl⟩
  rw [← hX]
  have hXX := Lib.hid hX
  clear hX
  obtain ⟨N, hN⟩ : ∃ N, Hid ((x % 18446744073709551616).toNat = N) := ⟨_, rfl⟩
  have hwx : IntKind.u64.wrap x = (N : Int) := by rw [IntKind.wrap_u64]; have := hN.out; omega
  go_enter Tryd.func39, Tryd.ntmps39
  go_wp2_with fail
  go_loopw [3, 4] (fun v i wr => ∃ k : Nat, k ≤ 8 ∧ i = .int .i64 (7 - (k : Int)) ∧ Hid (OwnY w.heap.size wr v ((Go.Dr.num8 x).take k)) ∧ Hid (Below w.heap.size w wr)) (fun _ i _ => ((intOf i) + 1).toNat)
  case atStart => exact ⟨0, by omega, rfl, own_new w, (Below.refl _ w).alloc (Nat.le_refl _) _⟩
  case round =>
    obtain ⟨k, hk, rfl, ho, hb⟩ := hrel
    by_cases hlt : k < 8
    · have k0 : (0 : Int) ≤ 7 - (k : Int) := by omega
      have k8 : (k : Int) ≤ 7 := by omega
      have k00 : (0 : Int) ≤ (k : Int) := by omega
      obtain ⟨b, hbe⟩ : ∃ b, Hid (N / 256 ^ (7 - k) % 256 = b) := ⟨_, rfl⟩
      have hbv : (N : Int) / 2 ^ (8 * (7 - k)) % 256 = (b : Int) := by
        have h : 256 ^ (7 - k) = 2 ^ (8 * (7 - k)) := (Nat.pow_mul 2 8 (7 - k)).symm
        rw [← hbe.out, h]
        push_cast
        rfl
      obtain ⟨v', W', hr, ho4, hb4⟩ := append_b1 (x := b) ho.out hb.out.size hb.out (by rw [← hbe.out]; exact Nat.mod_lt _ (by decide)) (by rw [List.length_take]; omega)
      rw [← hbe.out, ← num8_take hN.out hlt] at ho4
      have hr' := Lib.hid hr; have ho4' := Lib.hid ho4; have hb4' := Lib.hid hb4
      clear hr ho4 hb4
      go_wp2_with (first
        | (at_builtin; refine Lib.wpList_append_run _ rfl _ _ _ _ rfl _ _ rfl rfl _ _ (hr'.out _) ?_))
      go_roundw
      case rel => exact ⟨k + 1, by omega, by go_num, ho4', hb4'⟩
      case measure => simp [intOf]; omega
    · obtain rfl : k = 8 := by omega
      have ho2 := ho.out
      rw [List.take_of_length_le (by rw [num8_length]; omega)] at ho2
      have hfin : Hid (X (.returned u3) wr) := by rw [hXX.out]; exact ⟨_, rfl, ho2, hb.out⟩
      go_wp2_with fail
      exact hfin.out
/-- an owned row behind an owned row. -/
theorem append_own {B B2 : Nat} {w0 W : World} {v v2 : Value} {l l2 : List Nat} (ho : OwnY B W v l) (hB : B ≤ W.heap.size) (hb0 : Below B w0 W) (h2 : OwnY B2 W v2 l2) (hpos : 0 < l2.length) (hn : l.length + l2.length ≤ 1000000000000) :
    ∃ v' W', (∀ ty, (Builtin.append_ #[56, 56] ty #[v, v2]).run Tryd.prog W = .ok v' W') ∧ OwnY B W' v' (l ++ l2) ∧ Below B w0 W' := by
  obtain ⟨a, c, rfl, hBS⟩ := BS.own h2.1 h2.2
  cases a with
  | none => have := (hBS.nil rfl).1; omega
  | some ad =>
    obtain ⟨b, off, rfl, _, hc⟩ := hBS.cells _ rfl
    refine append_by ho hB hb0 rfl (fun j u hj => ?_) h2.2 hn
    rw [Addr.add_lit]
    unfold bv at hj
    rw [List.getElem?_map, Option.map_eq_some_iff] at hj
    obtain ⟨x, hx, rfl⟩ := hj
    exact hc j x hx
theorem OwnY.below {B : Nat} {W W' : World} {v : Value} {l : List Nat} (h : OwnY B W v l) (hb : Below W.heap.size W W') : OwnY B W' v l := ⟨Sl.owns_below h.1 hb (Nat.le_refl _), h.2⟩
end Go.Proofs.YthnfjkgiaanmhaaDoor
namespace Go.Proofs.YthnfjkgiaanmhaaDoor
open Go.RowKit Go.Mem
open Go.Dr (Lst Rt)

def leafTag (em : Bool) : ByteArray := if em then ⟨#[101, 109, 112, 116, 121]⟩ else ⟨#[108, 105, 115, 116, 105, 110, 103]⟩
def leafBs (x : Lst) (em : Bool) : List Nat := if em then Go.Dr.num8 x.dev else Go.Dr.num8 x.dev ++ Go.Dr.num8 x.ver ++ Go.Dr.num8 x.leaf ++ Go.Dr.num8 x.vers ++ [if x.gone then 1 else 0]
def LeafPost (x : Lst) (em : Bool) (w : World) (e : Ending) (w' : World) : Prop := ∃ v, e = .returned (.tuple #[.string (leafTag em), v]) ∧ OwnY w.heap.size w' v (leafBs x em) ∧ Below w.heap.size w w'

theorem OwnY.imp {B B2 : Nat} {W : World} {v : Value} {l : List Nat} (h : OwnY B W v l) (hle : B2 ≤ B) : OwnY B2 W v l :=
  ⟨⟨h.1.1, h.1.2.imp id (fun ⟨g, cap, cur, e, hb, r⟩ => ⟨g, cap, cur, e, Nat.le_trans hle hb, r⟩)⟩, h.2⟩

set_option maxRecDepth 20000 in
set_option maxHeartbeats 4000000 in
theorem leaft_any (x : Lst) (em : Bool) (w : World) : Calls Tryd.prog 16 #[.agg (gC x).toArray, .bool em] w (LeafPost x em w) := by
  obtain ⟨X, hX⟩ : ∃ X, X = LeafPost x em w := ⟨_, rfl⟩
  rw [← hX]
  obtain ⟨W0, hW0⟩ : ∃ W, Hid (w.alloc (.cells (gC x).toArray 25) = W) := ⟨_, rfl⟩
  have hB : Hid (Blk W0 w.heap.size 25 (gC x)) := by rw [← hW0.out]; exact Blk.new w 25 (gC x)
  have hb : Hid (Below w.heap.size w W0) := by rw [← hW0.out]; exact (Below.refl _ w).alloc (Nat.le_refl _) (.cells (gC x).toArray 25)
  have hfin : Hid (∀ v W, OwnY W0.heap.size W v (leafBs x em) → Below W0.heap.size W0 W → X (.returned (.tuple #[.string (leafTag em), v])) W) := fun v W h1 h2 => by rw [hX]; exact ⟨_, rfl, h1.imp hb.out.size, hb.out.trans (h2.mono hb.out.size)⟩
  clear hX hb
  obtain ⟨xb, hxb⟩ : ∃ b, Hid (w.heap.size = b) := ⟨_, rfl⟩
  have y0 := hB.out.at_ (i := 0) (x := .int .i64 x.dev) rfl
  go_enter Tryd.func16, Tryd.ntmps16
  rw [hxb.out] at hB y0
  go_wp2_with (first
    | (rw [hW0.out, hxb.out]))
  refine (r5bytes_any x.dev _).mono ?_
  rintro e w1 ⟨v1, rfl, ho1', hb1'⟩
  have ho1 := Lib.hid ho1'; have hb1 := Lib.hid hb1'
  clear y0 ho1' hb1'
  cases em with
  | true =>
    have hend := Lib.hid (hfin.out _ _ ho1.out hb1.out)
    go_wp2_with fail
    exact hend.out
  | false =>
    have y1 := (hB.out.below hb1.out hB.out.lt).at_ (i := 1) (x := .int .i64 x.ver) rfl
    go_wp2_with fail
    refine (r5bytes_any x.ver _).mono ?_
    rintro e w1a ⟨u1a, rfl, hoa, hba⟩
    obtain ⟨v2, w2, hr, ho', hb'⟩ := append_own (ho1.out.below (hba.mono (Nat.le_refl _))) (Nat.le_trans hb1.out.size hba.size) (hb1.out.trans (hba.mono hb1.out.size)) hoa (by rw [num8_length]; omega) (by simp only [num8_length]; omega)
    have ho2 := Lib.hid ho'; have hb2 := Lib.hid hb'; have hr1 := Lib.hid hr
    clear y1 ho' hb' hr hoa hba
    have y2 := (hB.out.below hb2.out hB.out.lt).at_ (i := 2) (x := .int .i64 x.leaf) rfl
    go_wp2_with (first
      | (at_builtin; refine Lib.wpList_append_run _ rfl _ _ _ _ rfl _ _ rfl rfl _ _ (hr1.out _) ?_))
    refine (r5bytes_any x.leaf _).mono ?_
    rintro e w2a ⟨u2a, rfl, hoa, hba⟩
    obtain ⟨v3, w3, hr, ho', hb'⟩ := append_own (ho2.out.below (hba.mono (Nat.le_refl _))) (Nat.le_trans hb2.out.size hba.size) (hb2.out.trans (hba.mono hb2.out.size)) hoa (by rw [num8_length]; omega) (by simp only [List.length_append, num8_length]; omega)
    have ho3 := Lib.hid ho'; have hb3 := Lib.hid hb'; have hr2 := Lib.hid hr
    clear y2 ho' hb' hr hoa hba
    have y3 := (hB.out.below hb3.out hB.out.lt).at_ (i := 3) (x := .int .i64 x.vers) rfl
    go_wp2_with (first
      | (at_builtin; refine Lib.wpList_append_run _ rfl _ _ _ _ rfl _ _ rfl rfl _ _ (hr2.out _) ?_))
    refine (r5bytes_any x.vers _).mono ?_
    rintro e w3a ⟨u3a, rfl, hoa, hba⟩
    obtain ⟨v4, w4, hr, ho', hb'⟩ := append_own (ho3.out.below (hba.mono (Nat.le_refl _))) (Nat.le_trans hb3.out.size hba.size) (hb3.out.trans (hba.mono hb3.out.size)) hoa (by rw [num8_length]; omega) (by simp only [List.length_append, num8_length]; omega)
    have ho4 := Lib.hid ho'; have hb4 := Lib.hid hb'; have hr3 := Lib.hid hr
    clear y3 ho' hb' hr hoa hba
    have y4 := (hB.out.below hb4.out hB.out.lt).at_ (i := 4) (x := .bool x.gone) rfl
    obtain ⟨g, hg⟩ : ∃ g, Hid (x.gone = g) := ⟨_, rfl⟩
    rw [hg.out] at y4
    cases g with
    | true =>
      obtain ⟨v9, w9, hr, ho', hb'⟩ := append_b1 (x := 1) ho4.out hb4.out.size hb4.out (by decide) (by simp only [List.length_append, num8_length]; omega)
      have hrl := Lib.hid hr
      have hend := Lib.hid (hfin.out _ _ (by unfold leafBs; rw [if_neg (by decide), hg.out]; exact ho') hb')
      clear ho' hb' hr
      go_wp2_with (first
        | (at_builtin; refine Lib.wpList_append_run _ rfl _ _ _ _ rfl _ _ rfl rfl _ _ (hr3.out _) ?_)
        | (at_builtin; refine Lib.wpList_append_run _ rfl _ _ _ _ rfl _ _ rfl rfl _ _ (hrl.out _) ?_))
      exact hend.out
    | false =>
      obtain ⟨v9, w9, hr, ho', hb'⟩ := append_b1 (x := 0) ho4.out hb4.out.size hb4.out (by decide) (by simp only [List.length_append, num8_length]; omega)
      have hrl := Lib.hid hr
      have hend := Lib.hid (hfin.out _ _ (by unfold leafBs; rw [if_neg (by decide), hg.out]; exact ho') hb')
      clear ho' hb' hr
      go_wp2_with (first
        | (at_builtin; refine Lib.wpList_append_run _ rfl _ _ _ _ rfl _ _ rfl rfl _ _ (hr3.out _) ?_)
        | (at_builtin; refine Lib.wpList_append_run _ rfl _ _ _ _ rfl _ _ rfl rfl _ _ (hrl.out _) ?_))
      exact hend.out
end Go.Proofs.YthnfjkgiaanmhaaDoor
namespace Go
theorem wp_append_run {P : Program} {op : Oper} {a : Act} {w : World} {K : Act → World → Prop} {Q : Exit → Act → World → Prop} {x y : Operand} {t t' : TypeId} (ho : op.op = .call { callee := .builtin .append, args := #[x, y], argTypes := #[t, t'] }) (v u : Value) (hx : a.eval x = v) (hy : a.eval y = u) {v' : Value} {w' : World}
    (hr : (Builtin.append_ #[t, t'] op.type #[v, u]).run P w = .ok v' w') (h : K (a.put op.dst v') w') : op.wp P a w K Q := by
  unfold Oper.wp
  simp [execOp, ho, resolve, invoke, builtin, hx, hy, hr, Result.andThen]
  exact h
end Go
namespace Go.Proofs.YthnfjkgiaanmhaaDoor
open Go.RowKit Go.Mem
open Go.Dr (Lst Rt)

/-- bytes as a text. -/
def txtB (l : List Nat) : ByteArray := strOfNums (l.map fun (x : Nat) => (x : Int))
theorem bs_text {W : World} {a : Option Addr} {n c : Nat} {l : List Nat} (h : BS W a n c l) :
    (convert 56 9 (.slice a n c)).run Tryd.prog W = .ok (.string (txtB l)) W := by
  cases a with
  | none =>
    obtain ⟨rfl, rfl⟩ := h.nil rfl
    obtain rfl : l = [] := List.eq_nil_of_length_eq_zero h.len
    exact run_convert_bytes_nil (P := Tryd.prog) W 56 5 Tryd.underlying56 Tryd.underlying5 0 0 9 Tryd.underlying9
  | some ad =>
    obtain ⟨b, off, rfl, _, hx⟩ := h.cells ad rfl
    exact run_convert_bytes_arg (P := Tryd.prog) W 56 5 Tryd.underlying56 Tryd.underlying5 b off n c (l.map fun (x : Nat) => (x : Int)) (by simp [h.len]) (fun i hi => by
      have hi' : i < l.length := by rw [h.len]; exact hi
      rw [hx i l[i] (List.getElem?_eq_getElem hi')]
      simp [List.getD, List.getElem?_eq_getElem hi']) 9 Tryd.underlying9
theorem txtB_data (l : List Nat) : (txtB l).data = (l.map fun (x : Nat) => UInt8.ofNat x).toArray := by
  unfold txtB strOfNums
  simp [List.map_map, Function.comp_def]
theorem txtB_size (l : List Nat) : (txtB l).size = l.length := by
  show (txtB l).data.size = _
  rw [txtB_data]; simp
theorem txtB_inj {x y : List Nat} (hx : ∀ u ∈ x, u < 256) (hy : ∀ u ∈ y, u < 256) (h : txtB x = txtB y) : x = y := by
  have e := congrArg (fun b : ByteArray => b.data.toList.map (·.toNat)) h
  simp only [txtB_data, List.map_map] at e
  have f : ∀ l : List Nat, (∀ u ∈ l, u < 256) → l.map ((fun u : UInt8 => u.toNat) ∘ fun (x : Nat) => UInt8.ofNat x) = l := fun l hl => by
    conv => rhs; rw [← List.map_id l]
    refine List.map_congr_left fun u hu => ?_
    simp only [Function.comp, UInt8.toNat_ofNat', id]
    exact Nat.mod_eq_of_lt (hl u hu)
  rw [f x hx, f y hy] at e
  exact e
theorem slice_atD (W : World) (db o : Nat) :
    (Instr.sliceAt 23 (.pointer (some ⟨db, o, none⟩)) none none none).run Tryd.prog W = .ok (.slice (some ⟨db, o, none⟩) 32 32) W := by kernel_rfl
theorem infoS : (Tryd.prog.info? 9).map (fun i => (i.zero, i.size, i.bytes)) = some (some (.string ⟨#[]⟩), 1, 16) := by kernel_rfl
def sv (T : List ByteArray) : List Value := T.map Value.string
theorem sv_append (a b : List ByteArray) : sv (a ++ b) = sv a ++ sv b := by simp [sv]
/-- an owned row of texts. -/
def OwnT (B : Nat) (W : World) (v : Value) (T : List ByteArray) : Prop := W.ownsRow B 9 1 v T.length (sv T)
theorem OwnT.imp {B B2 : Nat} {W : World} {v : Value} {T : List ByteArray} (h : OwnT B W v T) (hle : B2 ≤ B) : OwnT B2 W v T :=
  ⟨h.1, h.2.imp id (fun ⟨g, cap, cur, e, hb, r⟩ => ⟨g, cap, cur, e, Nat.le_trans hle hb, r⟩)⟩
theorem OwnD.imp {B B2 : Nat} {W : World} {v : Value} {ds : List (List Nat)} (h : OwnD B W v ds) (hle : B2 ≤ B) : OwnD B2 W v ds :=
  ⟨⟨h.1.1, h.1.2.imp id (fun ⟨g, cap, cur, e, hb, r⟩ => ⟨g, cap, cur, e, Nat.le_trans hle hb, r⟩)⟩, h.2⟩
theorem append_t {B : Nat} {W : World} {v : Value} {T : List ByteArray} {t : ByteArray} {nb : Nat} (ho : OwnT B W v T) (hB : B ≤ W.heap.size) (hc : W.cell? ⟨nb, 0, none⟩ = some (.string t)) (hn : T.length + 1 ≤ 1000000000000) :
    ∃ v' W', (∀ ty, (Builtin.append_ #[29, 29] ty #[v, .slice (some ⟨nb, 0, none⟩) 1 1]).run Tryd.prog W = .ok v' W') ∧ OwnT B W' v' (T ++ [t]) ∧ W.grownBy W' v.ownBlock ∧ (v'.ownBlock = v.ownBlock ∨ v'.ownBlock = some W.heap.size) := by
  obtain ⟨i0, hi, hz0, hz1, hz2⟩ := info_parts infoS
  obtain ⟨v', w', hr, h3, h4, _, h6⟩ := run_append_own_at (P := Tryd.prog) (w := W) B 29 0 9 i0 _ 1 16 Tryd.underlying29 hi hz0 hz1 hz2 rfl (by omega) v T.length _ ho ⟨nb, 0, none⟩ 1 1 [.string t] rfl (fun j u hj => by
    cases j with
    | zero => simp at hj; subst hj; rw [Addr.add_lit]; exact hc
    | succ j => simp at hj) (by intro u hu; simp at hu; subst hu; rfl) (by unfold maxLen; omega) (by omega) hB
  refine ⟨v', w', fun ty => ?_, ?_, h4, h6⟩
  · rw [← hr]; rfl
  · unfold OwnT
    rw [sv_append, List.length_append]
    exact h3
theorem append_d {B : Nat} {W : World} {v : Value} {ds : List (List Nat)} {d : List Nat} {mb : Nat} (ho : OwnD B W v ds) (hB : B ≤ W.heap.size) (hd : Dig d) (hc : ∀ (j : Nat) u, (bv d)[j]? = some u → W.cell? ⟨mb, j, none⟩ = some u) (hn : ds.length + 1 ≤ 1000000000000) :
    ∃ v' W', (∀ ty, (Builtin.append_ #[26, 26] ty #[v, .slice (some ⟨mb, 0, none⟩) 1 1]).run Tryd.prog W = .ok v' W') ∧ OwnD B W' v' (ds ++ [d]) ∧ W.grownBy W' v.ownBlock ∧ (v'.ownBlock = v.ownBlock ∨ v'.ownBlock = some W.heap.size) := by
  obtain ⟨i0, hi, ⟨z, hz0, hzs⟩, hz1, hz2⟩ := info_partsD
  obtain ⟨v', w', hr, h3, h4, _, h6⟩ := run_append_own_at (P := Tryd.prog) (w := W) B 26 0 23 i0 z 32 32 Tryd.underlying26 hi hz0 hz1 hz2 hzs (by omega) v ds.length _ ho.1 ⟨mb, 0, none⟩ 1 1 (bv d) (by rw [bv_length, hd.1]) (fun j u hj => by rw [Addr.add_lit, Nat.zero_add]; exact hc j u hj) (bv_one d) (by unfold maxLen; omega) (by omega) hB
  refine ⟨v', w', fun ty => ?_, ⟨?_, ?_⟩, h4, h6⟩
  · rw [← hr]; rfl
  · rw [List.map_append, List.flatten_append, List.length_append]
    simpa using h3
  · intro x hx
    rcases List.mem_append.1 hx with hx | hx
    · exact ho.2 x hx
    · rw [List.mem_singleton] at hx; subst hx; exact hd

/-- the two rows and the box of the last digest. -/
structure ClS (B zb : Nat) (W : World) (v1 v2 : Value) (T : List ByteArray) (Ds : List (List Nat)) (d : List Nat) : Prop where
  ot : OwnT B W v1 T
  od : OwnD B W v2 Ds
  ne : ∀ k, v1.ownBlock = some k → v2.ownBlock ≠ some k
  bz : Blk W zb 23 (bv d)
  lz : zb < B
  hB : B ≤ W.heap.size
section
variable {B zb : Nat} {W W' : World} {v1 v2 : Value} {T : List ByteArray} {Ds : List (List Nat)} {d : List Nat}
theorem ClS.below (h : ClS B zb W v1 v2 T Ds d) (hb : Below W.heap.size W W') : ClS B zb W' v1 v2 T Ds d :=
  ⟨Sl.owns_below h.ot hb (Nat.le_refl _), ⟨Sl.owns_below h.od.1 hb (Nat.le_refl _), h.od.2⟩, h.ne, h.bz.below hb h.bz.lt, h.lz, Nat.le_trans h.hB hb.size⟩
theorem ClS.alloc (h : ClS B zb W v1 v2 T Ds d) (o : Obj) : ClS B zb (W.alloc o) v1 v2 T Ds d := h.below ((Below.refl _ W).alloc (Nat.le_refl _) o)
theorem ClS.setz (h : ClS B zb W v1 v2 T Ds d) {e : List Nat} (hg : W.grownBy W' (some zb)) (he : Blk W' zb 23 (bv e)) : ClS B zb W' v1 v2 T Ds e :=
  ⟨World.ownsRow.kept h.ot hg (.inr fun e => by have := World.ownsRow.lt h.ot zb e; have := h.lz; omega), ⟨World.ownsRow.kept h.od.1 hg (.inr fun e => by have := World.ownsRow.lt h.od.1 zb e; have := h.lz; omega), h.od.2⟩, h.ne, he, h.lz, Nat.le_trans h.hB hg.size⟩
theorem ClS.appT (h : ClS B zb W v1 v2 T Ds d) {t : ByteArray} {nb : Nat} (hc : W.cell? ⟨nb, 0, none⟩ = some (.string t)) (hn : T.length + 1 ≤ 1000000000000) :
    ∃ v' W', (∀ ty, (Builtin.append_ #[29, 29] ty #[v1, .slice (some ⟨nb, 0, none⟩) 1 1]).run Tryd.prog W = .ok v' W') ∧ ClS B zb W' v' v2 (T ++ [t]) Ds d ∧ W.grownBy W' v1.ownBlock ∧ Below B W W' := by
  obtain ⟨v', W', hr, ho, hg, hat⟩ := append_t h.ot h.hB hc hn
  refine ⟨v', W', hr, ⟨ho, ⟨World.ownsRow.kept h.od.1 hg ?_, h.od.2⟩, ?_, ?_, h.lz, Nat.le_trans h.hB hg.size⟩, hg, (Below.refl B W).grown hg h.hB (fun r e => (World.ownsRow.lt h.ot r e).1)⟩
  · cases e : v1.ownBlock with
    | none => exact Classical.or_iff_not_imp_left.2 fun h => h
    | some k => exact .inr (h.ne k e)
  · intro k hk
    rcases hat with e | e
    · rw [e] at hk; exact h.ne k hk
    · rw [e] at hk; cases hk
      intro e2
      have := (World.ownsRow.lt h.od.1 _ e2).2
      omega
  · exact h.bz.grown hg (fun e => by have := World.ownsRow.lt h.ot zb e.symm; have := h.lz; omega)
theorem ClS.appD (h : ClS B zb W v1 v2 T Ds d) {e : List Nat} {mb : Nat} (hd : Dig e) (hc : ∀ (j : Nat) u, (bv e)[j]? = some u → W.cell? ⟨mb, j, none⟩ = some u) (hn : Ds.length + 1 ≤ 1000000000000) :
    ∃ v' W', (∀ ty, (Builtin.append_ #[26, 26] ty #[v2, .slice (some ⟨mb, 0, none⟩) 1 1]).run Tryd.prog W = .ok v' W') ∧ ClS B zb W' v1 v' T (Ds ++ [e]) d ∧ W.grownBy W' v2.ownBlock ∧ Below B W W' := by
  obtain ⟨v', W', hr, ho, hg, hat⟩ := append_d h.od h.hB hd hc hn
  refine ⟨v', W', hr, ⟨World.ownsRow.kept h.ot hg ?_, ho, ?_, ?_, h.lz, Nat.le_trans h.hB hg.size⟩, hg, (Below.refl B W).grown hg h.hB (fun r e => (World.ownsRow.lt h.od.1 r e).1)⟩
  · cases e : v2.ownBlock with
    | none => exact Classical.or_iff_not_imp_left.2 fun h => h
    | some k => exact .inr (fun e1 => h.ne k e1 e)
  · intro k hk
    rcases hat with e | e
    · rw [e]; exact h.ne k hk
    · rw [e]
      intro e2
      cases e2
      have := (World.ownsRow.lt h.ot _ hk).2
      omega
  · exact h.bz.grown hg (fun e => by have := World.ownsRow.lt h.od.1 zb e.symm; have := h.lz; omega)
end
theorem keeps_row {K : Nat → Prop} {w w' : World} {row : Option Nat} (h : w.grownBy w' row) (hK : ∀ b, K b → row ≠ some b) : Keeps K w w' := ⟨h.size, fun b hb k => h.block b hb (fun e => hK b k e.symm)⟩
theorem own_t1 {B nb : Nat} {W : World} {t : ByteArray} (h : Blk W nb 9 [.string t]) (hB : B ≤ nb) : OwnT B W (.slice (some ⟨nb, 0, none⟩) 1 1) [t] :=
  ⟨rfl, Or.inr ⟨nb, 1, #[.string t], rfl, hB, h, Nat.le_refl _, by unfold maxLen; omega, rfl, rfl⟩⟩
theorem own_d1 {B mb : Nat} {W : World} {d : List Nat} (h : Blk W mb 23 (bv d)) (hd : Dig d) (hB : B ≤ mb) : OwnD B W (.slice (some ⟨mb, 0, none⟩) 1 1) [d] :=
  ⟨⟨by simp [bv_length, hd.1], Or.inr ⟨mb, 1, (bv d).toArray, rfl, hB, h, Nat.le_refl _, by unfold maxLen; omega, by simp [bv_length, hd.1], by rw [List.map_singleton, List.flatten_singleton, List.take_of_length_le (by show (bv d).length ≤ _; rw [bv_length, hd.1]; simp)]⟩⟩, by intro x hx; simp at hx; subst hx; exact hd⟩

def slash : ByteArray := ⟨#[47]⟩
def pairT : ByteArray := ⟨#[112, 97, 105, 114, 47]⟩
def textL (x : Lst) (em : Bool) : ByteArray := leafTag em ++ slash ++ txtB (leafBs x em)
def leafD0 (x : Lst) (em : Bool) : List Nat := Sha.tagged (octets (leafTag em)) (leafBs x em)
def textsC (x : Lst) (em : Bool) (path : List (List Nat)) : List ByteArray := textL x em :: (Go.Dr.bothS (512 + x.dev.toNat) (leafD0 x em) path).map (fun b => pairT ++ txtB b)
def digsC (x : Lst) (em : Bool) (path : List (List Nat)) : List (List Nat) := leafD0 x em :: (Go.Dr.climbS (512 + x.dev.toNat) (leafD0 x em) path).map (·.2)
def ClimbPost (x : Lst) (em : Bool) (path : List (List Nat)) (w : World) (e : Ending) (w' : World) : Prop :=
  ∃ v1 v2, e = .returned (.tuple #[v1, v2]) ∧ OwnT w.heap.size w' v1 (textsC x em path) ∧ OwnD w.heap.size w' v2 (digsC x em path) ∧ Below w.heap.size w w'
theorem texts_step {x : Lst} {em : Bool} {path : List (List Nat)} {k : Nat} {p : List Nat} (h : path[k]? = some p) :
    (textsC x em path).take (k + 2) = (textsC x em path).take (k + 1) ++ [pairT ++ txtB (Go.Dr.bothD ((512 + x.dev.toNat) / 2 ^ k) (Go.Dr.climbD (512 + x.dev.toNat) (leafD0 x em) (path.take k)) p)] := by
  unfold textsC
  rw [List.take_succ_cons, List.take_succ_cons, List.cons_append]
  congr 1
  rw [← List.map_take, ← List.map_take, List.take_add_one, Go.Dr.bothS_at _ _ _ _ _ h]
  simp
theorem digs_step {x : Lst} {em : Bool} {path : List (List Nat)} {k : Nat} (h : k < path.length) :
    (digsC x em path).take (k + 2) = (digsC x em path).take (k + 1) ++ [Go.Dr.climbD (512 + x.dev.toNat) (leafD0 x em) (path.take (k + 1))] := by
  unfold digsC
  rw [List.take_succ_cons, List.take_succ_cons, List.cons_append]
  congr 1
  rw [← List.map_take, ← List.map_take, Go.Dr.climbS_take _ _ _ _ h]
  simp
end Go.Proofs.YthnfjkgiaanmhaaDoor
namespace Go.Proofs.YthnfjkgiaanmhaaDoor
open Go.RowKit Go.Mem
open Go.Dr (Lst Rt)

set_option maxRecDepth 20000 in
set_option maxHeartbeats 8000000 in
theorem lclimb_any (x : Lst) (em : Bool) (a : Option Addr) (n c : Nat) (path : List (List Nat)) (hd0 : 0 ≤ x.dev ∧ x.dev < 512) (hn : n ≤ 40) (w : World) (HT : Tabs w) (H : DS w a n c path) :
    Calls Tryd.prog 6 #[.agg (gC x).toArray, .bool em, .slice a n c] w (ClimbPost x em path w) := by
  have HT' := Lib.hid HT; have H' := Lib.hid H
  have hpl : path.length = n := H.len
  clear HT H
  obtain ⟨X, hX⟩ : ∃ X, X = ClimbPost x em path w := ⟨_, rfl⟩
  have hfin : Hid (∀ v1 v2 W, OwnT w.heap.size W v1 (textsC x em path) → OwnD w.heap.size W v2 (digsC x em path) → Below w.heap.size w W → X (.returned (.tuple #[v1, v2])) W) := fun v1 v2 W h1 h2 h3 => by rw [hX]; exact ⟨v1, v2, rfl, h1, h2, h3⟩
  rw [← hX]
  clear hX
  obtain ⟨W0, hW0⟩ : ∃ W, Hid (w.alloc (.cells (gC x).toArray 25) = W) := ⟨_, rfl⟩
  have hB : Hid (Blk W0 w.heap.size 25 (gC x)) := by rw [← hW0.out]; exact Blk.new w 25 (gC x)
  have hb : Hid (Below w.heap.size w W0) := by rw [← hW0.out]; exact (Below.refl _ w).alloc (Nat.le_refl _) (.cells (gC x).toArray 25)
  obtain ⟨xb, hxb⟩ : ∃ b, Hid (w.heap.size = b) := ⟨_, rfl⟩
  have hgi : Hid ((Tryd.prog.info? 25).map (·.size) = some (gC x).length) := sizeG
  have hgr := Lib.hid hB.out.range
  obtain ⟨dv, hdv⟩ : ∃ dv : Nat, Hid (x.dev = (dv : Int)) := ⟨x.dev.toNat, by show _ = _; omega⟩
  have hdv5 : dv < 512 := by have := hdv.out; omega
  have hN0 : Hid (512 + x.dev.toNat = 512 + dv) := by show _ = _; rw [hdv.out]; rfl
  go_enter Tryd.func6, Tryd.ntmps6
  rw [hxb.out] at hB hgr
  go_wp2_with (first
    | (rw [hW0.out, hxb.out])
    | (refine wpList_load_mid (by rfl) 25 (.tmp 3) (by rfl) xb 0 (by rfl) (gC x) _ hgr.out Tryd.underlying25 (by rfl) hgi.out ?_))
  refine (leaft_any x em _).mono ?_
  rintro e w1 ⟨v1, rfl, ho1', hb1'⟩
  obtain ⟨pa, pc, rfl, hBS⟩ := BS.own ho1'.1 ho1'.2
  have ho1 := Lib.hid ho1'; have hb1 := Lib.hid hb1'; have hBS' := Lib.hid hBS
  clear ho1' hb1' hBS
  have hT0d : Hid (textsC x em path = (leafTag em ++ slash ++ txtB (leafBs x em)) :: (Go.Dr.bothS (512 + x.dev.toNat) (leafD0 x em) path).map (fun b => pairT ++ txtB b)) := rfl
  have hD0d : Hid (leafD0 x em = Sha.tagged (octets (leafTag em)) (leafBs x em)) := rfl
  obtain ⟨tag, htag⟩ : ∃ t, Hid (leafTag em = t) := ⟨_, rfl⟩
  obtain ⟨bs, hbs⟩ : ∃ t, Hid (leafBs x em = t) := ⟨_, rfl⟩
  have hbl : bs.length ≤ 100 := by rw [← hbs.out]; unfold leafBs; split <;> simp [num8_length]
  have htl : tag.size ≤ 100 := by rw [← htag.out]; unfold leafTag; cases em <;> decide
  rw [hbs.out] at ho1 hBS' hT0d hD0d ⊢
  rw [htag.out] at hT0d hD0d ⊢
  obtain ⟨bn, hbn⟩ : ∃ m, Hid (bs.length = m) := ⟨_, rfl⟩
  rw [hbn.out] at hbl hBS' ⊢
  go_wp2_with fail
  refine (tagged_any tag (by omega) pa bn pc bs _ (HT'.out.below (hb.out.trans (hb1.out.mono hb.out.size))) hBS'.out (by omega)).mono ?_
  rintro e w2 ⟨rfl, hb2⟩
  obtain ⟨D, hD⟩ : ∃ D, Hid (leafD0 x em = D) := ⟨_, rfl⟩
  have hDe := hD0d.out
  rw [hD.out] at hDe
  have hDd : Hid (Dig D) := by rw [hDe]; exact ⟨Sha.tagged_length _ _, Sha.tagged_lt _ _⟩
  rw [← hDe]
  have hb2' := Lib.hid (hb1.out.trans (hb2.mono hb1.out.size))
  have hBS2 := Lib.hid (hBS'.out.below hb2)
  have hwz2 : Hid (w.heap.size ≤ w2.heap.size) := Nat.le_trans hb.out.size hb2'.out.size
  obtain ⟨V3, hP3⟩ : ∃ V, Hid (PutR 23 (w2.alloc (.cells (bv Go.Dr.zd).toArray 23)) V w2.heap.size 23 (bv D)) := put_row (Blk.new w2 23 (bv Go.Dr.zd)) (by rw [bv_length, hDd.out.1]; rfl) (by rw [bv_length, hDd.out.1]; exact size35) (bv_one D)
  have hst3 := below_grown ((Below.refl _ w2).alloc (Nat.le_refl _) _) hP3.out.grown (by simp) (Nat.le_refl _)
  have hb3 := Lib.hid (hb2'.out.trans (hst3.mono hb2'.out.size))
  have hBS3 := Lib.hid (hBS2.out.below hst3)
  have hBd := Lib.hid hP3.out.blk
  have hBl := Lib.hid (hB.out.below hb3.out hB.out.lt)
  have hbwx := Lib.hid (hb.out.trans (hb3.out.mono hb.out.size))
  clear hb2 hst3 hBS' ho1 hb1 hBS2 hgr hDe hD0d hb2' hb3 hB
  obtain ⟨zb, hzb⟩ : ∃ b, Hid (w2.heap.size = b) := ⟨_, rfl⟩
  have hzs : Hid (w.heap.size ≤ zb) := by rw [← hzb.out]; exact hwz2.out
  have hP3z := hP3.out
  rw [hzb.out] at hP3z hBd
  have hP3' := Lib.hid hP3z
  clear hP3 hP3z
  go_upto_region 3 with (first
    | (rw [hzb.out]
       refine wpList_store_mid (by rfl) 23 (.tmp 10) (.tmp 24) (by rfl) zb 0 (bv D).toArray (by rfl) (by rfl) hP3'.out.there hP3'.out.info (by simpa using hP3'.out.one) ?_
       generalize hWq : World.setCells _ _ _ _ = Wa
       obtain rfl : V3 = Wa := by rw [← hWq]; exact hP3'.out.eq
       clear hWq))
  have hzl := hBd.out.lt
  obtain ⟨B, hBB⟩ : ∃ B, Hid (zb + 1 = B) := ⟨_, rfl⟩
  have hwz : Hid (w.heap.size ≤ zb) := by have h1 := hzs.out; show _ ≤ _; omega
  have hBz : zb < B := by have := hBB.out; omega
  have hBw : B ≤ V3.heap.size := by have := hBB.out; omega
  clear hP3'
  have hix : Hid ((Tryd.prog.info? 23).map (·.size) = some (bv D).length) := by show _ = _; rw [bv_length, hDd.out.1]; exact size35
  have hsl := Lib.hid (dig_slice1 hDd.out.1)
  obtain ⟨tx, htx⟩ : ∃ t, Hid (tag ++ slash ++ txtB bs = t) := ⟨_, rfl⟩
  have htx' : tag ++ (⟨#[47]⟩ : ByteArray) ++ txtB bs = tx := htx.out
  have hs1 : (9223372036854775807 < tag.size + 1) = False := by rw [eq_iff_iff, iff_false]; omega
  have hs2 : (9223372036854775807 < tag.size + 1 + (txtB bs).size) = False := by rw [eq_iff_iff, iff_false, txtB_size, hbn.out]; omega
  have hs3 : (9223372036854775807 < (tag ++ (⟨#[47]⟩ : ByteArray)).size + (txtB bs).size) = False := by rw [eq_iff_iff, iff_false, txtB_size, hbn.out, ByteArray.size_append]; show ¬ _ < tag.size + 1 + bn; omega
  have hcv : ∀ W, Below V3.heap.size V3 W → (convert 56 9 (.slice pa bn pc)).run Tryd.prog W = .ok (.string (txtB bs)) W := fun W h => bs_text (hBS3.out.below h)
  refine wp_region_held_drew (S := fun wz => Below V3.heap.size V3 wz) (by kernel_rfl) ((Below.refl _ V3).drew) (fun hHeld => ?_)
  generalize hWd : V3.drew = Wd at *
  clear hWd
  refine wpAnyH_take (i := 0) (oi := { dst := some 25, op := Op.move (Operand.tmp 8), type := 9, pos := "law.go:118", after := #[], guard := none }) (v := ?_) rfl (by kernel_rfl) (by kernel_rfl) (by kernel_rfl) (fun _ _ _ h => h) (Or.inl ⟨by rfl, ?_⟩) hHeld ?_
  rotate_left
  · intro wz hSw
    go_simp
    all_goals (with_reducible rfl)
  try simp only [Act.put, List.setIfInBounds_toArray, List.set_cons_zero, List.set_cons_succ]
  refine wpAnyH_take (i := 1) (oi := { dst := some 26, op := Op.binOp BinOp.add 9 (Operand.tmp 25) (Operand.const (Value.string { data := #[47] })) 9, type := 9, pos := "law.go:118", after := #[{ on := 0, ground := Ground.data }], guard := none }) (v := ?_) rfl (by kernel_rfl) (by kernel_rfl) (by kernel_rfl) (fun _ _ _ h => h) (Or.inl ⟨by rfl, ?_⟩) hHeld ?_
  rotate_left
  · intro wz hSw
    have hs' := hs1
    go_simp
    all_goals (with_reducible rfl)
  try simp only [Act.put, List.setIfInBounds_toArray, List.set_cons_zero, List.set_cons_succ]
  refine wpAnyH_take (i := 2) (oi := { dst := some 27, op := Op.move (Operand.tmp 9), type := 56, pos := "law.go:118", after := #[], guard := none }) (v := ?_) rfl (by kernel_rfl) (by kernel_rfl) (by kernel_rfl) (fun _ _ _ h => h) (Or.inl ⟨by rfl, ?_⟩) hHeld ?_
  rotate_left
  · intro wz hSw
    go_simp
    all_goals (with_reducible rfl)
  try simp only [Act.put, List.setIfInBounds_toArray, List.set_cons_zero, List.set_cons_succ]
  refine wpAnyH_take (i := 3) (oi := { dst := some 28, op := Op.convert 56 9 (Operand.tmp 27), type := 9, pos := "law.go:118", after := #[{ on := 2, ground := Ground.data }], guard := none }) (v := ?_) rfl (by kernel_rfl) (by kernel_rfl) (by kernel_rfl) (fun _ _ _ h => h) (Or.inl ⟨by rfl, ?_⟩) hHeld ?_
  rotate_left
  · intro wz hSw
    have hcv' := hcv wz hSw
    go_simp
    all_goals (with_reducible rfl)
  try simp only [Act.put, List.setIfInBounds_toArray, List.set_cons_zero, List.set_cons_succ]
  refine wpAnyH_take (i := 4) (oi := { dst := some 29, op := Op.binOp BinOp.add 9 (Operand.tmp 26) (Operand.tmp 28) 9, type := 9, pos := "law.go:118", after := #[{ on := 1, ground := Ground.data }, { on := 3, ground := Ground.data }], guard := none }) (v := ?_) rfl (by kernel_rfl) (by kernel_rfl) (by kernel_rfl) (fun _ _ _ h => h) (Or.inl ⟨by rfl, ?_⟩) hHeld ?_
  rotate_left
  · intro wz hSw
    have ht' := htx'
    have hs' := hs2
    have hs3' := hs3
    go_simp
    all_goals (with_reducible rfl)
  try simp only [Act.put, List.setIfInBounds_toArray, List.set_cons_zero, List.set_cons_succ]
  refine wpAnyH_take (i := 6) (oi := { dst := some 31, op := Op.load 23 (Operand.tmp 10), type := 23, pos := "law.go:118", after := #[{ on := 8, ground := Ground.gcOnly Departure.lateStores }], guard := none }) rfl (by kernel_rfl) (by kernel_rfl) (by kernel_rfl) (fun _ _ _ h => h) (yieldsIf_load_mid (by rfl) _ _ rfl zb 0 rfl (bv D) _ (fun wz h => (hBd.out.below h hzl).range) Tryd.underlying23 rfl (hix.out)) hHeld ?_
  try simp only [Act.put, List.setIfInBounds_toArray, List.set_cons_zero, List.set_cons_succ]
  have hWs : B ≤ Wd.heap.size := Nat.le_trans hBw hHeld.size
  refine share (G := ∀ nb mb W, Below V3.heap.size V3 W → Blk W nb 9 [.string tx] → Blk W mb 23 (bv D) → B ≤ nb → B ≤ mb → nb ≠ mb → (?G3 : Nat → Nat → World → Prop) nb mb W) ?h3 ?k3
  case h3 =>
    intro K3
    refine wpAnyH_ready (rs := [5, 7]) (by kernel_rfl) (by simp) ?_
    refine AllReadyH.cons (o := { dst := some 30, op := Op.buildSlice 29 1 #[(0, Operand.tmp 29)], type := 29, pos := "law.go:118", after := #[{ on := 4, ground := Ground.data }], guard := none }) rfl (fun K hK => ?_) (AllReadyH.cons (o := { dst := some 32, op := Op.buildSlice 26 1 #[(0, Operand.tmp 31)], type := 26, pos := "law.go:118", after := #[{ on := 6, ground := Ground.data }, { on := 8, ground := Ground.gcOnly Departure.lateStores }], guard := none }) rfl (fun K hK => ?_) AllReadyH.nil)
    case refine_1 =>
      rw [if_pos (by rfl)]
      show Oper.wp _ _ _ _ K _
      go_simp
      refine hK.out _ _ (hHeld.alloc hHeld.size _) (fun hHeld2 => ?_)
      clear hK K
      have hHeld := hHeld2
      clear hHeld2
      try simp only [Act.put, List.setIfInBounds_toArray, List.set_cons_zero, List.set_cons_succ]
      refine wpAnyH_take (i := 8) (oi := { dst := some 11, op := Op.assign (Operand.tmp 30), type := 29, pos := "law.go:118", after := #[{ on := 5, ground := Ground.data }, { on := 0, ground := Ground.phase }, { on := 1, ground := Ground.phase }, { on := 2, ground := Ground.phase }, { on := 3, ground := Ground.phase }, { on := 4, ground := Ground.phase }, { on := 5, ground := Ground.phase }, { on := 6, ground := Ground.textOnly Departure.lateStores }, { on := 7, ground := Ground.textOnly Departure.lateStores }], guard := none }) (v := ?_) rfl (by kernel_rfl) (by kernel_rfl) (by kernel_rfl) (fun _ _ _ h => h) (Or.inl ⟨by rfl, ?_⟩) hHeld ?_
      rotate_left
      · intro wz hSw
        go_simp
        all_goals (with_reducible rfl)
      try simp only [Act.put, List.setIfInBounds_toArray, List.set_cons_zero, List.set_cons_succ]
      refine wpAnyH_ready (rs := [7]) (by kernel_rfl) (by simp) ?_
      refine AllReadyH.cons (o := { dst := some 32, op := Op.buildSlice 26 1 #[(0, Operand.tmp 31)], type := 26, pos := "law.go:118", after := #[{ on := 6, ground := Ground.data }, { on := 8, ground := Ground.gcOnly Departure.lateStores }], guard := none }) rfl (fun K hK => ?_) AllReadyH.nil
      rw [if_pos (by rfl)]
      refine wp_buildSlice_run _ _ _ rfl #[(0, .agg (bv D).toArray)] (by simp only [List.map_toArray, List.map_cons, List.map_nil]; rfl) (hsl.out _) ?_
      refine hK.out _ _ (hHeld.alloc hHeld.size _) (fun hHeld2 => ?_)
      clear hK K
      have hHeld := hHeld2
      clear hHeld2
      try simp only [Act.put, List.setIfInBounds_toArray, List.set_cons_zero, List.set_cons_succ]
      try simp only [World.size_alloc]
      refine wpAnyH_take (i := 9) (oi := { dst := some 12, op := Op.assign (Operand.tmp 32), type := 26, pos := "law.go:118", after := #[{ on := 7, ground := Ground.data }, { on := 8, ground := Ground.chain }, { on := 0, ground := Ground.phase }, { on := 1, ground := Ground.phase }, { on := 2, ground := Ground.phase }, { on := 3, ground := Ground.phase }, { on := 4, ground := Ground.phase }, { on := 5, ground := Ground.phase }, { on := 6, ground := Ground.phase }, { on := 7, ground := Ground.phase }, { on := 8, ground := Ground.phase }], guard := none }) (v := ?_) rfl (by kernel_rfl) (by kernel_rfl) (by kernel_rfl) (fun _ _ _ h => h) (Or.inl ⟨by rfl, ?_⟩) hHeld ?_
      rotate_left
      · intro wz hSw
        go_simp
        all_goals (with_reducible rfl)
      try simp only [Act.put, List.setIfInBounds_toArray, List.set_cons_zero, List.set_cons_succ]
      refine wpAnyH_done (by kernel_rfl) ?_ _
      have f1 := (Blk.new Wd 9 [.string tx]).alloc (.cells (bv D).toArray 23)
      have f2 : Blk ((Wd.alloc (.cells [Value.string tx].toArray 9)).alloc (.cells (bv D).toArray 23)) (Wd.heap.size + 1) 23 (bv D) := by have := Blk.new (Wd.alloc (.cells [Value.string tx].toArray 9)) 23 (bv D); rwa [World.size_alloc] at this
      have f3 : B ≤ Wd.heap.size + 1 := by omega
      have f5 := hWs
      have f4 : Wd.heap.size ≠ Wd.heap.size + 1 := by omega
      change Below V3.heap.size V3 ((Wd.alloc (.cells [Value.string tx].toArray 9)).alloc (.cells (bv D).toArray 23)) at hHeld
      generalize (Wd.alloc (.cells [Value.string tx].toArray 9)).alloc (.cells (bv D).toArray 23) = W9 at hHeld f1 f2 ⊢
      generalize Wd.heap.size + 1 = q1 at f2 f3 f4 ⊢
      generalize Wd.heap.size = q2 at f1 f4 f5 ⊢
      exact K3 q2 q1 W9 hHeld f1 f2 f5 f3 f4
    case refine_2 =>
      rw [if_pos (by rfl)]
      refine wp_buildSlice_run _ _ _ rfl #[(0, .agg (bv D).toArray)] (by simp only [List.map_toArray, List.map_cons, List.map_nil]; rfl) (hsl.out _) ?_
      refine hK.out _ _ (hHeld.alloc hHeld.size _) (fun hHeld2 => ?_)
      clear hK K
      have hHeld := hHeld2
      clear hHeld2
      try simp only [Act.put, List.setIfInBounds_toArray, List.set_cons_zero, List.set_cons_succ]
      refine wpAnyH_ready (rs := [5]) (by kernel_rfl) (by simp) ?_
      refine AllReadyH.cons (o := { dst := some 30, op := Op.buildSlice 29 1 #[(0, Operand.tmp 29)], type := 29, pos := "law.go:118", after := #[{ on := 4, ground := Ground.data }], guard := none }) rfl (fun K hK => ?_) AllReadyH.nil
      rw [if_pos (by rfl)]
      show Oper.wp _ _ _ _ K _
      go_simp
      refine hK.out _ _ (hHeld.alloc hHeld.size _) (fun hHeld2 => ?_)
      clear hK K
      have hHeld := hHeld2
      clear hHeld2
      try simp only [Act.put, List.setIfInBounds_toArray, List.set_cons_zero, List.set_cons_succ]
      try simp only [World.size_alloc]
      refine wpAnyH_take (i := 8) (oi := { dst := some 11, op := Op.assign (Operand.tmp 30), type := 29, pos := "law.go:118", after := #[{ on := 5, ground := Ground.data }, { on := 0, ground := Ground.phase }, { on := 1, ground := Ground.phase }, { on := 2, ground := Ground.phase }, { on := 3, ground := Ground.phase }, { on := 4, ground := Ground.phase }, { on := 5, ground := Ground.phase }, { on := 6, ground := Ground.textOnly Departure.lateStores }, { on := 7, ground := Ground.textOnly Departure.lateStores }], guard := none }) (v := ?_) rfl (by kernel_rfl) (by kernel_rfl) (by kernel_rfl) (fun _ _ _ h => h) (Or.inl ⟨by rfl, ?_⟩) hHeld ?_
      rotate_left
      · intro wz hSw
        go_simp
        all_goals (with_reducible rfl)
      try simp only [Act.put, List.setIfInBounds_toArray, List.set_cons_zero, List.set_cons_succ]
      refine wpAnyH_take (i := 9) (oi := { dst := some 12, op := Op.assign (Operand.tmp 32), type := 26, pos := "law.go:118", after := #[{ on := 7, ground := Ground.data }, { on := 8, ground := Ground.chain }, { on := 0, ground := Ground.phase }, { on := 1, ground := Ground.phase }, { on := 2, ground := Ground.phase }, { on := 3, ground := Ground.phase }, { on := 4, ground := Ground.phase }, { on := 5, ground := Ground.phase }, { on := 6, ground := Ground.phase }, { on := 7, ground := Ground.phase }, { on := 8, ground := Ground.phase }], guard := none }) (v := ?_) rfl (by kernel_rfl) (by kernel_rfl) (by kernel_rfl) (fun _ _ _ h => h) (Or.inl ⟨by rfl, ?_⟩) hHeld ?_
      rotate_left
      · intro wz hSw
        go_simp
        all_goals (with_reducible rfl)
      try simp only [Act.put, List.setIfInBounds_toArray, List.set_cons_zero, List.set_cons_succ]
      refine wpAnyH_done (by kernel_rfl) ?_ _
      have f1 : Blk ((Wd.alloc (.cells (bv D).toArray 23)).alloc (.cells [Value.string tx].toArray 9)) (Wd.heap.size + 1) 9 [.string tx] := by have := Blk.new (Wd.alloc (.cells (bv D).toArray 23)) 9 [.string tx]; rwa [World.size_alloc] at this
      have f2 := (Blk.new Wd 23 (bv D)).alloc (.cells [Value.string tx].toArray 9)
      have f3 : B ≤ Wd.heap.size + 1 := by omega
      have f5 := hWs
      have f4 : Wd.heap.size + 1 ≠ Wd.heap.size := by omega
      change Below V3.heap.size V3 ((Wd.alloc (.cells (bv D).toArray 23)).alloc (.cells [Value.string tx].toArray 9)) at hHeld
      generalize (Wd.alloc (.cells (bv D).toArray 23)).alloc (.cells [Value.string tx].toArray 9) = W9 at hHeld f1 f2 ⊢
      generalize Wd.heap.size + 1 = q1 at f1 f3 f4 ⊢
      generalize Wd.heap.size = q2 at f2 f4 f5 ⊢
      exact K3 q1 q2 W9 hHeld f1 f2 f3 f5 f4
  case k3 =>
  intro nb mb W4 hst hNb hMb hnB hmB hnm
  have hS0 : ClS B zb W4 (.slice (some ⟨nb, 0, none⟩) 1 1) (.slice (some ⟨mb, 0, none⟩) 1 1) [tx] [D] D := ⟨own_t1 hNb hnB, own_d1 hMb hDd.out hmB, fun k e1 e2 => by cases e1; cases e2; exact hnm rfl, hBd.out.below hst hzl, hBz, Nat.le_trans hBw hst.size⟩
  have hS4 := Lib.hid hS0
  have y0 := (hBl.out.below hst hBl.out.lt).at_ (i := 0) (x := .int .i64 (dv : Int)) (by rw [← hdv.out]; rfl)
  have hbV : Hid (Below w.heap.size w V3) := hbwx.out
  have hxz : w.heap.size ≤ zb := hwz.out
  have hb4 := Lib.hid (hbV.out.trans (hst.mono hbV.out.size))
  have hP4 : Hid (DS W4 a n c path) := H'.out.below hb4.out
  clear hst hNb hMb hnB hmB hnm hS0
  clear htx'
  obtain ⟨N, hN⟩ : ∃ N, Hid (512 + dv = N) := ⟨_, rfl⟩
  have hNb : N < 1024 := by have := hN.out; omega
  have hNx : 512 + x.dev.toNat = N := by rw [hN0.out, hN.out]
  obtain ⟨T, hT⟩ : ∃ T, Hid (textsC x em path = T) := ⟨_, rfl⟩
  obtain ⟨Dg, hDg⟩ : ∃ T, Hid (digsC x em path = T) := ⟨_, rfl⟩
  have hTs : Hid (∀ (k : Nat) (p : List Nat), path[k]? = some p → T.take (k + 2) = T.take (k + 1) ++ [pairT ++ txtB (Go.Dr.bothD (N / 2 ^ k) (Go.Dr.climbD N D (path.take k)) p)]) := fun k p h => by
    have := texts_step (x := x) (em := em) h
    rw [hT.out, hNx, hD.out] at this
    exact this
  have hDs : Hid (∀ (k : Nat), k < n → Dg.take (k + 2) = Dg.take (k + 1) ++ [Go.Dr.climbD N D (path.take (k + 1))]) := fun k h => by
    have := digs_step (x := x) (em := em) (path := path) (k := k) (by rw [hpl]; exact h)
    rw [hDg.out, hNx, hD.out] at this
    exact this
  have hT1 : Hid (T.take 1 = [tx]) := by show _ = _; rw [← hT.out, ← htx.out, hT0d.out]; rfl
  have hD1 : Hid (Dg.take 1 = [D]) := by show _ = _; rw [← hDg.out, ← hD.out]; rfl
  have hTl : Hid (T.length = n + 1) := by show _ = _; rw [← hT.out]; unfold textsC; rw [List.length_cons, List.length_map, Go.Dr.bothS_length, hpl]
  have hDl : Hid (Dg.length = n + 1) := by show _ = _; rw [← hDg.out]; unfold digsC; rw [List.length_cons, List.length_map, Go.Dr.climbS_length, hpl]
  rw [hT.out, hDg.out] at hfin
  have hCs : Hid (∀ (k : Nat) (p : List Nat), path[k]? = some p → Go.Dr.climbD N D (path.take (k + 1)) = Go.Dr.stepD (N / 2 ^ k) (Go.Dr.climbD N D (path.take k)) p) := fun k p h => Go.Dr.climbD_take N D path k p h
  have hCd : Hid (∀ k : Nat, Dig (Go.Dr.climbD N D (path.take k))) := fun k => ⟨Go.Dr.climbD_take_length N hDd.out.1 path k, Go.Dr.climbD_take_lt N hDd.out.2 path k⟩
  have n63 : (n : Int) ≤ 9223372036854775807 := by omega
  have hNi : Hid ((512 : Int) + (dv : Int) = (N : Int)) := by have := hN.out; show _ = _; omega
  clear hT hDg hN0 hNx hT0d htx
  go_wp2_with fail
  clear y0
  rw [hNi.out]
  clear hNi
  go_loopw [11, 12, 13, 14] (fun tv ev nv iv wr => ∃ k : Nat, k ≤ n ∧ nv = .int .i64 ((N / 2 ^ k : Nat) : Int) ∧ iv = .int .i64 (k : Int) ∧ Hid (ClS B zb wr tv ev (T.take (k + 1)) (Dg.take (k + 1)) (Go.Dr.climbD N D (path.take k))) ∧ Hid (Below w.heap.size w wr)) (fun _ _ _ iv _ => n - (intOf iv).toNat)
  case atStart =>
    refine ⟨0, Nat.zero_le _, by rw [Nat.pow_zero, Nat.div_one], rfl, ?_, hb4⟩
    show ClS _ _ _ _ _ _ _ _
    rw [hT1.out, hD1.out]
    exact hS4.out
  case round =>
    obtain ⟨k, hk, rfl, rfl, hS, hb⟩ := hrel
    generalize u11 = tv at *
    generalize u12 = ev at *
    clear hS4 hb4 hP4
    by_cases hlt : k < n
    · obtain ⟨p, hp⟩ : ∃ p, path[k]? = some p := ⟨_, List.getElem?_eq_getElem (by omega)⟩
      have hpd : Dig p := H'.out.ok p (List.mem_of_getElem? hp)
      obtain ⟨m, hm⟩ : ∃ m, Hid (N / 2 ^ k = m) := ⟨_, rfl⟩
      have hmb : m < 1024 := by rw [← hm.out]; exact Nat.lt_of_le_of_lt (Nat.div_le_self _ _) hNb
      have hm2 : Hid (N / 2 ^ (k + 1) = m / 2) := by show _ = _; rw [← hm.out, Nat.div_div_eq_div_mul, Nat.pow_succ]
      obtain ⟨d, hd⟩ : ∃ d, Hid (Go.Dr.climbD N D (path.take k) = d) := ⟨_, rfl⟩
      have hdd : Dig d := by rw [← hd.out]; exact hCd.out k
      have hts := hTs.out k p hp
      have hcs := hCs.out k p hp
      have hds := hDs.out k hlt
      rw [hm.out, hd.out] at hts hcs
      rw [hcs] at hds
      rw [hd.out] at hS
      rw [hm.out]
      have hts' := Lib.hid hts
      have hds' := Lib.hid hds
      have hcs' := Lib.hid hcs
      obtain ⟨Tk, hTk⟩ : ∃ t, Hid (T.take (k + 1) = t) := ⟨_, rfl⟩
      obtain ⟨Ek, hEk⟩ : ∃ t, Hid (Dg.take (k + 1) = t) := ⟨_, rfl⟩
      rw [hTk.out] at hts' hS
      rw [hEk.out] at hds' hS
      have hTkl : Tk.length ≤ 100 := by rw [← hTk.out, List.length_take]; omega
      have hEkl : Ek.length ≤ 100 := by rw [← hEk.out, List.length_take]; omega
      clear hts hcs hds
      have n0 : 0 < n := by omega
      have hDS := H'.out.below hb.out
      cases ha : a with
      | none => have := hDS.nil ha; omega
      | some ad =>
      obtain ⟨bp, op, hade, hbpl, hpc⟩ := hDS.cells n0 ad ha
      subst hade
      subst ha
      have hpr0 := hpc k p hp
      rw [Nat.mul_comm] at hpr0
      have hpr := Lib.hid hpr0
      clear hpc hpr0 hDS
      have k0 : (0 : Int) ≤ (k : Int) := by omega
      have k1 : (k : Int) < (n : Int) := by omega
      have hs1 := fun W => slice_atD W zb 0
      have hs2 := fun W => slice_atD W bp (op + k * 32)
      have hzl := hS.out.bz.lt
      have hb8z : True := trivial
      obtain ⟨n3, hn3⟩ : ∃ n3 : Nat, Hid (wr.heap.size = n3) := ⟨_, rfl⟩
      go_upto_region 8 with fail
      refine wp_region_held_drew (S := fun wz => Below wr.heap.size wr wz) (by kernel_rfl) ((Below.refl _ wr).drew) (fun hHeld => ?_)
      generalize hWd : wr.drew = Wd at *
      clear hWd
      refine wpAnyH_take (i := 1) (oi := { dst := some 43, op := Op.slice 23 (Operand.tmp 10) none none none, type := 56, pos := "law.go:121", after := #[], guard := none }) (v := ?_) rfl (by kernel_rfl) (by kernel_rfl) (by kernel_rfl) (fun _ _ _ h => h) (Or.inl ⟨by rfl, ?_⟩) hHeld ?_
      rotate_left
      · intro wz hSw
        have q1 := hs1 wz
        go_simp
        all_goals (with_reducible rfl)
      try simp only [Act.put, List.setIfInBounds_toArray, List.set_cons_zero, List.set_cons_succ]
      refine wpAnyH_take (i := 3) (oi := { dst := some 45, op := Op.move (Operand.tmp 2), type := 26, pos := "law.go:121", after := #[], guard := none }) (v := ?_) rfl (by kernel_rfl) (by kernel_rfl) (by kernel_rfl) (fun _ _ _ h => h) (Or.inl ⟨by rfl, ?_⟩) hHeld ?_
      rotate_left
      · intro wz hSw
        go_simp
        all_goals (with_reducible rfl)
      try simp only [Act.put, List.setIfInBounds_toArray, List.set_cons_zero, List.set_cons_succ]
      refine wpAnyH_take (i := 4) (oi := { dst := some 46, op := Op.move (Operand.tmp 14), type := 3, pos := "law.go:121", after := #[], guard := none }) (v := ?_) rfl (by kernel_rfl) (by kernel_rfl) (by kernel_rfl) (fun _ _ _ h => h) (Or.inl ⟨by rfl, ?_⟩) hHeld ?_
      rotate_left
      · intro wz hSw
        go_simp
        all_goals (with_reducible rfl)
      try simp only [Act.put, List.setIfInBounds_toArray, List.set_cons_zero, List.set_cons_succ]
      refine wpAnyH_take (i := 5) (oi := { dst := some 47, op := Op.indexAddr 26 (Operand.tmp 45) (Operand.tmp 46), type := 0, pos := "law.go:121", after := #[{ on := 3, ground := Ground.data }, { on := 4, ground := Ground.data }], guard := none }) (v := ?_) rfl (by kernel_rfl) (by kernel_rfl) (by kernel_rfl) (fun _ _ _ h => h) (Or.inl ⟨by rfl, ?_⟩) hHeld ?_
      rotate_left
      · intro wz hSw
        have k0' := k0
        have k1' := k1
        go_simp
        all_goals (with_reducible rfl)
      try simp only [Act.put, List.setIfInBounds_toArray, List.set_cons_zero, List.set_cons_succ]
      refine wpAnyH_take (i := 6) (oi := { dst := some 48, op := Op.slice 23 (Operand.tmp 47) none none none, type := 56, pos := "law.go:121", after := #[{ on := 5, ground := Ground.data }], guard := none }) (v := ?_) rfl (by kernel_rfl) (by kernel_rfl) (by kernel_rfl) (fun _ _ _ h => h) (Or.inl ⟨by rfl, ?_⟩) hHeld ?_
      rotate_left
      · intro wz hSw
        have q2 := hs2 wz
        go_simp
        all_goals (with_reducible rfl)
      try simp only [Act.put, List.setIfInBounds_toArray, List.set_cons_zero, List.set_cons_succ]
      refine wpAnyH_ready (rs := [0]) (by kernel_rfl) (by simp) ?_
      refine AllReadyH.cons (o := { dst := some 42, op := Op.buildSlice 56 0 #[], type := 56, pos := "law.go:121", after := #[], guard := none }) rfl (fun K hK => ?_) AllReadyH.nil
      rw [if_pos (by rfl)]
      show Oper.wp _ _ _ _ K _
      go_simp
      refine hK.out _ _ (hHeld.alloc hHeld.size _) (fun hHeld2 => ?_)
      have ho0 := own_new Wd
      have hWz := hHeld.size
      clear hHeld
      have hHeld := hHeld2
      clear hHeld2
      clear hK K
      try simp only [Act.put, List.setIfInBounds_toArray, List.set_cons_zero, List.set_cons_succ]
      refine wpAnyH_ready (rs := [2]) (by kernel_rfl) (by simp) ?_
      refine AllReadyH.cons (o := { dst := some 44, op := Op.call { callee := Callee.builtin Builtin.append, args := #[Operand.tmp 42, Operand.tmp 43], argTypes := #[56, 56] }, type := 56, pos := "law.go:121", after := #[{ on := 0, ground := Ground.data }, { on := 1, ground := Ground.data }], guard := none }) rfl (fun K hK => ?_) AllReadyH.nil
      rw [if_pos (by rfl)]
      obtain ⟨v1, Wx1, hr, ho1, hbx⟩ := append_by (B := Wd.heap.size) (w0 := (Wd.alloc (.cells #[] 5))) (a := ⟨zb, 0, none⟩) (m := 32) (c := 32) (l2 := d) ho0 (by simp) ((Below.refl _ _)) hdd.1 (fun j u hj => by rw [Addr.add_lit, Nat.zero_add]; exact (hS.out.bz.below hHeld hS.out.bz.lt).at_ hj) hdd.2 (by simp)
      refine wp_append_run (by rfl) _ _ (by rfl) (by rfl) (hr _) ?_
      refine hK.out _ _ (hHeld.trans (hbx.mono (by omega))) (fun hHeld2 => ?_)
      have hWz1 := hbx.size
      clear hHeld hr hbx
      have hHeld := hHeld2
      clear hHeld2
      clear hK K
      try simp only [Act.put, List.setIfInBounds_toArray, List.set_cons_zero, List.set_cons_succ]
      simp only [World.size_alloc] at hWz1
      simp only [List.nil_append] at ho1
      refine wpAnyH_ready (rs := [7]) (by kernel_rfl) (by simp) ?_
      refine AllReadyH.cons (o := { dst := some 49, op := Op.call { callee := Callee.builtin Builtin.append, args := #[Operand.tmp 44, Operand.tmp 48], argTypes := #[56, 56] }, type := 56, pos := "law.go:121", after := #[{ on := 2, ground := Ground.data }, { on := 6, ground := Ground.data }, { on := 2, ground := Ground.chain }], guard := none }) rfl (fun K hK => ?_) AllReadyH.nil
      rw [if_pos (by rfl)]
      obtain ⟨v2, Wx2, hr, ho2, hbx⟩ := append_by (B := Wd.heap.size) (w0 := Wx1) (a := ⟨bp, op + k * 32, none⟩) (m := 32) (c := 32) (l2 := p) ho1 (by omega) ((Below.refl _ _)) hpd.1 (fun j u hj => by rw [Addr.add_lit]; rw [hHeld.cell (p := ⟨bp, op + k * 32 + j, none⟩) (show bp < _ by have := hbpl; have := hb8z; omega)]; exact hpr.out j u hj) hpd.2 (by rw [hdd.1]; omega)
      refine wp_append_run (by rfl) _ _ (by rfl) (by rfl) (hr _) ?_
      refine hK.out _ _ (hHeld.trans (hbx.mono (by omega))) (fun hHeld2 => ?_)
      have hWz2 := hbx.size
      clear hHeld hr hbx
      have hHeld := hHeld2
      clear hHeld2
      clear hK K
      try simp only [Act.put, List.setIfInBounds_toArray, List.set_cons_zero, List.set_cons_succ]
      refine wpAnyH_take (i := 8) (oi := { dst := some 15, op := Op.assign (Operand.tmp 49), type := 56, pos := "law.go:121", after := #[{ on := 7, ground := Ground.data }, { on := 7, ground := Ground.chain }, { on := 0, ground := Ground.phase }, { on := 1, ground := Ground.phase }, { on := 2, ground := Ground.phase }, { on := 3, ground := Ground.phase }, { on := 4, ground := Ground.phase }, { on := 5, ground := Ground.phase }, { on := 6, ground := Ground.phase }, { on := 7, ground := Ground.phase }], guard := none }) (v := ?_) rfl (by kernel_rfl) (by kernel_rfl) (by kernel_rfl) (fun _ _ _ h => h) (Or.inl ⟨by rfl, ?_⟩) hHeld ?_
      rotate_left
      · intro wz hSw
        go_simp
        all_goals (with_reducible rfl)
      try simp only [Act.put, List.setIfInBounds_toArray, List.set_cons_zero, List.set_cons_succ]
      refine wpAnyH_done (by kernel_rfl) ?_ _
      have hb8 := Lib.hid hHeld
      have ho8 := Lib.hid ho2
      clear hHeld ho2 ho1 hs1 hs2
      have hS8 := Lib.hid (hS.out.below hb8.out)
      have hb8w := Lib.hid (hb.out.trans (hb8.out.mono hb.out.size))
      by_cases hpar : m % 2 = 0
      · have hrm : Int.tmod (m : Int) 2 = 0 := by rw [Int.tmod_eq_emod_of_nonneg (by omega)]; omega
        have hbo : Go.Dr.bothD m d p = d ++ p := by unfold Go.Dr.bothD; rw [if_pos hpar]
        rw [← hbo] at ho8
        go_upto_region 11 with fail
        obtain ⟨bq, hbq⟩ : ∃ b, Hid (Go.Dr.bothD m d p = b) := ⟨_, rfl⟩
        have hbl64 : bq.length = 64 := by rw [← hbq.out, hbo, List.length_append, hdd.1, hpd.1]
        have hoq := ho8.out
        rw [hbq.out] at hoq
        obtain ⟨pb, pc2, hve, hBY⟩ := BS.own hoq.1 hoq.2
        rw [hbl64] at hve hBY
        cases pb with
        | none => have := (hBY.nil rfl).1; omega
        | some ab =>
        obtain ⟨gb, og, hab, hgbl, _⟩ := hBY.cells0
        subst hab
        have hgb0 : Wd.heap.size ≤ gb := by
          have h := Sl.of_owns hoq.1
          obtain ⟨a', c', e', _, hs'⟩ := h
          rw [hve] at e'
          simp only [Value.slice.injEq] at e'
          obtain ⟨rfl, _, _⟩ := e'
          exact (hs' _ rfl).1
        subst hve
        have hbY := Lib.hid hBY
        have hgb : wr.heap.size ≤ gb := by have := hb8.out.size; omega
        clear hBY hoq hgb0
        have hbo0 : Hid (Go.Dr.bothD m d p = bq) := hbq
        go_wp2_with fail
        refine (tagged_any ⟨#[112, 97, 105, 114]⟩ (by decide) _ 64 pc2 bq _ (HT'.out.below hb8w.out) hbY.out (by omega)).mono ?_
        rintro e1 W10 ⟨rfl, hst⟩
        obtain ⟨e, hee⟩ : ∃ e, Hid (Go.Dr.stepD m d p = e) := ⟨_, rfl⟩
        have hee0 : Sha.tagged (octets ⟨#[112, 97, 105, 114]⟩) bq = e := by rw [← hee.out, ← hbq.out]; rfl
        rw [hee0]
        have hed : Hid (Dig e) := by rw [← hee.out]; exact ⟨Go.Dr.stepD_length m d p, Go.Dr.stepD_lt m d p⟩
        have hS10 := Lib.hid (hS8.out.below hst)
        have hb10 := Lib.hid (hb8w.out.trans (hst.mono hb8w.out.size))
        have hsz10 : wr.heap.size ≤ W10.heap.size := by have := hst.size; have := hgbl; omega
        have hbY10 := Lib.hid (hbY.out.below hst)
        have hgbl10 : gb < W10.heap.size := by have := hst.size; omega
        clear hst hee0
        obtain ⟨V11, hP11⟩ := put_row (ty := 23) hS10.out.bz (x := bv e) (by rw [bv_length, bv_length, hed.out.1, hdd.1]) (by rw [bv_length, hed.out.1]; exact size35) (bv_one e)
        have hP11' := Lib.hid hP11
        have hS11 := Lib.hid (hS10.out.setz hP11.grown hP11.blk)
        have hb11 := Lib.hid (below_grown hb10.out hP11.grown hb10.out.size hwz.out)
        have hsz11 : wr.heap.size ≤ V11.heap.size := by have := hP11.grown.size; omega
        have hbY11 := Lib.hid (hbY10.out.grown hP11.grown (fun ad e => by cases e; show gb ≠ zb; omega))
        have hie : Hid ((Tryd.prog.info? 23).map (·.size) = some (bv e).length) := by show _ = _; rw [bv_length, hed.out.1]; exact size35
        have hsle := Lib.hid (dig_slice1 hed.out.1)
        clear hP11 hS10 hb10 hbY10 hbY ho8
        go_upto_region 12 with (first
          | (refine wpList_store_mid (by rfl) 23 (.tmp 10) (.tmp 62) (by rfl) zb 0 (bv e).toArray (by rfl) (by rfl) hP11'.out.there hP11'.out.info (by simpa using hP11'.out.one) ?_
             generalize hWq : World.setCells _ _ _ _ = Wa
             obtain rfl : V11 = Wa := by rw [← hWq]; exact hP11'.out.eq
             clear hWq))
        clear hP11'
        have hcv12 : ∀ wz, Keeps (fun b => b = zb ∨ b = gb) V11 wz → (convert 56 9 (.slice (some ⟨gb, og, none⟩) 64 pc2)).run Tryd.prog wz = .ok (.string (txtB bq)) wz := fun wz h => bs_text (hbY11.out.keep h.size (fun b off e i => by
          simp only [Option.some.injEq, Addr.mk.injEq, and_true] at e
          obtain ⟨rfl, rfl⟩ := e
          exact h.cell (p := ⟨gb, i, none⟩) (hbY11.out.block_lt ⟨gb, og, none⟩ rfl) (.inr rfl)))
        have hz12 : Hid (∀ wz, Keeps (fun b => b = zb ∨ b = gb) V11 wz → wz.rangeAt zb 0 (bv e)) := fun wz h j u hj => by
          rw [h.cell (p := ⟨zb, 0 + j, none⟩) hS11.out.bz.lt (.inl rfl), Nat.zero_add]
          exact hS11.out.bz.at_ hj
        obtain ⟨tq, hte⟩ : ∃ t, Hid (pairT ++ txtB bq = t) := ⟨_, rfl⟩
        have htx12 : (⟨#[112, 97, 105, 114, 47]⟩ : ByteArray) ++ txtB bq = tq := hte.out
        have hs12 : (9223372036854775807 < 5 + (txtB bq).size) = False := by rw [eq_iff_iff, iff_false, txtB_size, hbl64]; omega
        have hs13 : (9223372036854775807 < (⟨#[112, 97, 105, 114, 47]⟩ : ByteArray).size + (txtB bq).size) = False := by rw [eq_iff_iff, iff_false, txtB_size, hbl64]; show ¬ _ < 5 + 64; omega
        have hKT : Hid (∀ b, (b = zb ∨ b = gb) → tv.ownBlock ≠ some b) := fun b hb e => by
          have h := World.ownsRow.lt hS.out.ot b e
          rcases hb with rfl | rfl <;> omega
        have hKD : Hid (∀ b, (b = zb ∨ b = gb) → ev.ownBlock ≠ some b) := fun b hb e => by
          have h := World.ownsRow.lt hS.out.od.1 b e
          rcases hb with rfl | rfl <;> omega
        have hKT2 : Hid (∀ k, tv.ownBlock = some k → k < wr.heap.size) := fun b e => (World.ownsRow.lt hS.out.ot b e).2
        have hwB : w.heap.size ≤ B := by have := hwz.out; omega
        refine wp_region_held_drew (S := fun wz => Keeps (fun b => b = zb ∨ b = gb) V11 wz) (by kernel_rfl) ((Keeps.below (Below.refl _ V11).drew)) (fun hHeld => ?_)
        have hS12 : ClS B zb V11.drew tv ev Tk Ek e := hS11.out.below (Below.refl _ V11).drew
        have hb12 : Below w.heap.size w V11.drew := hb11.out.drew
        have hsz12 : wr.heap.size ≤ V11.drew.heap.size := hsz11
        generalize hWd : V11.drew = Wd at *
        clear hWd
        refine wpAnyH_take (i := 0) (oi := { dst := some 63, op := Op.move (Operand.tmp 11), type := 29, pos := "law.go:126", after := #[], guard := none }) (v := ?_) rfl (by kernel_rfl) (by kernel_rfl) (by kernel_rfl) (fun _ _ _ h => h) (Or.inl ⟨by rfl, ?_⟩) hHeld ?_
        rotate_left
        · intro wz hSw
          go_simp
          all_goals (with_reducible rfl)
        try simp only [Act.put, List.setIfInBounds_toArray, List.set_cons_zero, List.set_cons_succ]
        refine wpAnyH_take (i := 1) (oi := { dst := some 64, op := Op.move (Operand.tmp 15), type := 56, pos := "law.go:126", after := #[], guard := none }) (v := ?_) rfl (by kernel_rfl) (by kernel_rfl) (by kernel_rfl) (fun _ _ _ h => h) (Or.inl ⟨by rfl, ?_⟩) hHeld ?_
        rotate_left
        · intro wz hSw
          go_simp
          all_goals (with_reducible rfl)
        try simp only [Act.put, List.setIfInBounds_toArray, List.set_cons_zero, List.set_cons_succ]
        refine wpAnyH_take (i := 2) (oi := { dst := some 65, op := Op.convert 56 9 (Operand.tmp 64), type := 9, pos := "law.go:126", after := #[{ on := 1, ground := Ground.data }], guard := none }) (v := ?_) rfl (by kernel_rfl) (by kernel_rfl) (by kernel_rfl) (fun _ _ _ h => h) (Or.inl ⟨by rfl, ?_⟩) hHeld ?_
        rotate_left
        · intro wz hSw
          have hc' := hcv12 wz hSw
          go_simp
          all_goals (with_reducible rfl)
        try simp only [Act.put, List.setIfInBounds_toArray, List.set_cons_zero, List.set_cons_succ]
        refine wpAnyH_take (i := 3) (oi := { dst := some 66, op := Op.binOp BinOp.add 9 (Operand.const (Value.string { data := #[112, 97, 105, 114, 47] })) (Operand.tmp 65) 9, type := 9, pos := "law.go:126", after := #[{ on := 2, ground := Ground.data }], guard := none }) (v := ?_) rfl (by kernel_rfl) (by kernel_rfl) (by kernel_rfl) (fun _ _ _ h => h) (Or.inl ⟨by rfl, ?_⟩) hHeld ?_
        rotate_left
        · intro wz hSw
          have ht' := htx12
          have hs' := hs12
          have hs3' := hs13
          go_simp
          all_goals (with_reducible rfl)
        try simp only [Act.put, List.setIfInBounds_toArray, List.set_cons_zero, List.set_cons_succ]
        refine wpAnyH_take (i := 6) (oi := { dst := some 69, op := Op.move (Operand.tmp 12), type := 26, pos := "law.go:126", after := #[], guard := none }) (v := ?_) rfl (by kernel_rfl) (by kernel_rfl) (by kernel_rfl) (fun _ _ _ h => h) (Or.inl ⟨by rfl, ?_⟩) hHeld ?_
        rotate_left
        · intro wz hSw
          go_simp
          all_goals (with_reducible rfl)
        try simp only [Act.put, List.setIfInBounds_toArray, List.set_cons_zero, List.set_cons_succ]
        refine wpAnyH_take (i := 7) (oi := { dst := some 70, op := Op.load 23 (Operand.tmp 10), type := 23, pos := "law.go:126", after := #[], guard := none }) rfl (by kernel_rfl) (by kernel_rfl) (by kernel_rfl) (fun _ _ _ h => h) (yieldsIf_load_mid (by rfl) _ _ rfl zb 0 rfl (bv e) _ (fun wz h => (hz12.out wz h)) Tryd.underlying23 rfl (hie.out)) hHeld ?_
        try simp only [Act.put, List.setIfInBounds_toArray, List.set_cons_zero, List.set_cons_succ]
        have hSWd := hS12
        have hbWd := hb12
        have hszWd := hsz12
        clear hS12 hb12
        refine share (G := ∀ v1 v2 nb mb W, ClS B zb W v1 v2 (Tk ++ [tq]) (Ek ++ [e]) e → Below w.heap.size w W → (?Gfa : Value → Value → Nat → Nat → World → Prop) v1 v2 nb mb W) ?hfa ?kfa
        case hfa =>
          intro KF
          refine wpAnyH_ready (rs := [4, 8]) (by kernel_rfl) (by simp) ?_
          refine AllReadyH.cons (o := { dst := some 67, op := Op.buildSlice 29 1 #[(0, Operand.tmp 66)], type := 29, pos := "law.go:126", after := #[{ on := 3, ground := Ground.data }], guard := none }) rfl (fun K hK => ?_) (AllReadyH.cons (o := { dst := some 71, op := Op.buildSlice 26 1 #[(0, Operand.tmp 70)], type := 26, pos := "law.go:126", after := #[{ on := 7, ground := Ground.data }], guard := none }) rfl (fun K hK => ?_) AllReadyH.nil)
          case refine_1 =>
            rw [if_pos (by rfl)]
            show Oper.wp _ _ _ _ K _
            go_simp
            have hst := (Below.refl Wd.heap.size Wd).alloc (Nat.le_refl _) (.cells ([.string tq] : List Value).toArray 9)
            have hNnb := Blk.new Wd 9 [.string tq]
            have hlonb : wr.heap.size ≤ Wd.heap.size := hszWd
            change Below Wd.heap.size Wd (Wd.alloc (.cells ([.string tq] : List Value).toArray 9)) at hst
            refine hK.out _ _ (hHeld.trans (Keeps.below hst)) (fun hHeld2 => ?_)
            clear hK K
            have hHeld := hHeld2
            clear hHeld2
            have hSWe := hSWd.below hst
            have hbWe := hbWd.trans (hst.mono hbWd.size)
            have hszWe : wr.heap.size ≤ (Wd.alloc (.cells ([.string tq] : List Value).toArray 9)).heap.size := Nat.le_trans hlonb hst.size

            clear hst
            generalize Wd.alloc (.cells ([.string tq] : List Value).toArray 9) = We at hHeld hSWe hbWe hszWe hNnb  ⊢
            generalize Wd.heap.size = nb at hNnb hlonb ⊢
            try simp only [Act.put, List.setIfInBounds_toArray, List.set_cons_zero, List.set_cons_succ]
            refine wpAnyH_ready (rs := [5, 8]) (by kernel_rfl) (by simp) ?_
            refine AllReadyH.cons (o := { dst := some 68, op := Op.call { callee := Callee.builtin Builtin.append, args := #[Operand.tmp 63, Operand.tmp 67], argTypes := #[29, 29] }, type := 29, pos := "law.go:126", after := #[{ on := 0, ground := Ground.data }, { on := 4, ground := Ground.data }], guard := none }) rfl (fun K hK => ?_) (AllReadyH.cons (o := { dst := some 71, op := Op.buildSlice 26 1 #[(0, Operand.tmp 70)], type := 26, pos := "law.go:126", after := #[{ on := 7, ground := Ground.data }], guard := none }) rfl (fun K hK => ?_) AllReadyH.nil)
            case refine_1 =>
              rw [if_pos (by rfl)]
              obtain ⟨tv2, Wf, hr, hSWf, hgT, hbT⟩ := hSWe.appT (hNnb.at_ (i := 0) rfl) (by omega)
              refine wp_append_run (by rfl) _ _ (by rfl) (by rfl) (hr _) ?_
              refine hK.out _ _ (hHeld.trans (keeps_row hgT (hKT.out))) (fun hHeld2 => ?_)
              clear hK K hr
              have hHeld := hHeld2
              clear hHeld2
              have hbWf := hbWe.trans (hbT.mono hwB)
              have hszWf : wr.heap.size ≤ Wf.heap.size := Nat.le_trans hszWe hbT.size

              clear hgT hbT hSWe hbWe
              try simp only [Act.put, List.setIfInBounds_toArray, List.set_cons_zero, List.set_cons_succ]
              refine wpAnyH_ready (rs := [8]) (by kernel_rfl) (by simp) ?_
              refine AllReadyH.cons (o := { dst := some 71, op := Op.buildSlice 26 1 #[(0, Operand.tmp 70)], type := 26, pos := "law.go:126", after := #[{ on := 7, ground := Ground.data }], guard := none }) rfl (fun K hK => ?_) AllReadyH.nil
              rw [if_pos (by rfl)]
              refine wp_buildSlice_run _ _ _ rfl #[(0, .agg (bv e).toArray)] (by simp only [List.map_toArray, List.map_cons, List.map_nil]; rfl) (hsle.out _) ?_
              have hst := (Below.refl Wf.heap.size Wf).alloc (Nat.le_refl _) (.cells ((bv e) : List Value).toArray 23)
              have hNmb := Blk.new Wf 23 (bv e)
              have hlomb : wr.heap.size ≤ Wf.heap.size := hszWf
              change Below Wf.heap.size Wf (Wf.alloc (.cells ((bv e) : List Value).toArray 23)) at hst
              refine hK.out _ _ (hHeld.trans (Keeps.below hst)) (fun hHeld2 => ?_)
              clear hK K
              have hHeld := hHeld2
              clear hHeld2
              have hSWg := hSWf.below hst
              have hbWg := hbWf.trans (hst.mono hbWf.size)
              have hszWg : wr.heap.size ≤ (Wf.alloc (.cells ((bv e) : List Value).toArray 23)).heap.size := Nat.le_trans hlomb hst.size

              clear hst
              generalize Wf.alloc (.cells ((bv e) : List Value).toArray 23) = Wg at hHeld hSWg hbWg hszWg hNmb  ⊢
              generalize Wf.heap.size = mb at hNmb hlomb ⊢
              try simp only [Act.put, List.setIfInBounds_toArray, List.set_cons_zero, List.set_cons_succ]
              refine wpAnyH_ready (rs := [9]) (by kernel_rfl) (by simp) ?_
              refine AllReadyH.cons (o := { dst := some 72, op := Op.call { callee := Callee.builtin Builtin.append, args := #[Operand.tmp 69, Operand.tmp 71], argTypes := #[26, 26] }, type := 26, pos := "law.go:126", after := #[{ on := 6, ground := Ground.data }, { on := 8, ground := Ground.data }, { on := 5, ground := Ground.chain }], guard := none }) rfl (fun K hK => ?_) AllReadyH.nil
              rw [if_pos (by rfl)]
              obtain ⟨ev2, Wh, hr, hSWh, hgT, hbT⟩ := hSWg.appD hed.out (fun j u hj => hNmb.at_ hj) (by omega)
              refine wp_append_run (by rfl) _ _ (by rfl) (by rfl) (hr _) ?_
              refine hK.out _ _ (hHeld.trans (keeps_row hgT (hKD.out))) (fun hHeld2 => ?_)
              clear hK K hr
              have hHeld := hHeld2
              clear hHeld2
              have hbWh := hbWg.trans (hbT.mono hwB)
              clear hgT hbT hSWg hbWg
              try simp only [Act.put, List.setIfInBounds_toArray, List.set_cons_zero, List.set_cons_succ]
              refine wpAnyH_take (i := 10) (oi := { dst := some 11, op := Op.assign (Operand.tmp 68), type := 29, pos := "law.go:126", after := #[{ on := 5, ground := Ground.data }, { on := 9, ground := Ground.chain }, { on := 0, ground := Ground.phase }, { on := 1, ground := Ground.phase }, { on := 2, ground := Ground.phase }, { on := 3, ground := Ground.phase }, { on := 4, ground := Ground.phase }, { on := 5, ground := Ground.phase }, { on := 6, ground := Ground.textOnly Departure.lateStores }, { on := 7, ground := Ground.textOnly Departure.lateStores }, { on := 8, ground := Ground.textOnly Departure.lateStores }, { on := 9, ground := Ground.textOnly Departure.lateStoresUnsure }], guard := none }) (v := ?_) rfl (by kernel_rfl) (by kernel_rfl) (by kernel_rfl) (fun _ _ _ h => h) (Or.inl ⟨by rfl, ?_⟩) hHeld ?_
              rotate_left
              · intro wz hSw
                go_simp
                all_goals (with_reducible rfl)
              try simp only [Act.put, List.setIfInBounds_toArray, List.set_cons_zero, List.set_cons_succ]
              refine wpAnyH_take (i := 11) (oi := { dst := some 12, op := Op.assign (Operand.tmp 72), type := 26, pos := "law.go:126", after := #[{ on := 9, ground := Ground.data }, { on := 10, ground := Ground.chain }, { on := 0, ground := Ground.phase }, { on := 1, ground := Ground.phase }, { on := 2, ground := Ground.phase }, { on := 3, ground := Ground.phase }, { on := 4, ground := Ground.phase }, { on := 5, ground := Ground.phase }, { on := 6, ground := Ground.phase }, { on := 7, ground := Ground.phase }, { on := 8, ground := Ground.phase }, { on := 9, ground := Ground.phase }, { on := 10, ground := Ground.phase }], guard := none }) (v := ?_) rfl (by kernel_rfl) (by kernel_rfl) (by kernel_rfl) (fun _ _ _ h => h) (Or.inl ⟨by rfl, ?_⟩) hHeld ?_
              rotate_left
              · intro wz hSw
                go_simp
                all_goals (with_reducible rfl)
              try simp only [Act.put, List.setIfInBounds_toArray, List.set_cons_zero, List.set_cons_succ]
              refine wpAnyH_done (by kernel_rfl) ?_ _
              exact KF _ _ nb mb _ hSWh hbWh
            case refine_2 =>
              rw [if_pos (by rfl)]
              refine wp_buildSlice_run _ _ _ rfl #[(0, .agg (bv e).toArray)] (by simp only [List.map_toArray, List.map_cons, List.map_nil]; rfl) (hsle.out _) ?_
              have hst := (Below.refl We.heap.size We).alloc (Nat.le_refl _) (.cells ((bv e) : List Value).toArray 23)
              have hNmb := Blk.new We 23 (bv e)
              have hlomb : wr.heap.size ≤ We.heap.size := hszWe
              change Below We.heap.size We (We.alloc (.cells ((bv e) : List Value).toArray 23)) at hst
              refine hK.out _ _ (hHeld.trans (Keeps.below hst)) (fun hHeld2 => ?_)
              clear hK K
              have hHeld := hHeld2
              clear hHeld2
              have hSWf := hSWe.below hst
              have hbWf := hbWe.trans (hst.mono hbWe.size)
              have hszWf : wr.heap.size ≤ (We.alloc (.cells ((bv e) : List Value).toArray 23)).heap.size := Nat.le_trans hlomb hst.size
              have hNnb' := hNnb.below hst hNnb.lt
              clear hNnb
              have hNnb := hNnb'
              clear hNnb'
              clear hst
              generalize We.alloc (.cells ((bv e) : List Value).toArray 23) = Wf at hHeld hSWf hbWf hszWf hNmb hNnb ⊢
              generalize We.heap.size = mb at hNmb hlomb ⊢
              try simp only [Act.put, List.setIfInBounds_toArray, List.set_cons_zero, List.set_cons_succ]
              refine wpAnyH_ready (rs := [5]) (by kernel_rfl) (by simp) ?_
              refine AllReadyH.cons (o := { dst := some 68, op := Op.call { callee := Callee.builtin Builtin.append, args := #[Operand.tmp 63, Operand.tmp 67], argTypes := #[29, 29] }, type := 29, pos := "law.go:126", after := #[{ on := 0, ground := Ground.data }, { on := 4, ground := Ground.data }], guard := none }) rfl (fun K hK => ?_) AllReadyH.nil
              rw [if_pos (by rfl)]
              obtain ⟨tv2, Wg, hr, hSWg, hgT, hbT⟩ := hSWf.appT (hNnb.at_ (i := 0) rfl) (by omega)
              refine wp_append_run (by rfl) _ _ (by rfl) (by rfl) (hr _) ?_
              refine hK.out _ _ (hHeld.trans (keeps_row hgT (hKT.out))) (fun hHeld2 => ?_)
              clear hK K hr
              have hHeld := hHeld2
              clear hHeld2
              have hbWg := hbWf.trans (hbT.mono hwB)
              have hszWg : wr.heap.size ≤ Wg.heap.size := Nat.le_trans hszWf hbT.size
              have hNmb' := hNmb.grown hgT (fun e => by have := hKT2.out _ e.symm; omega)
              clear hNmb
              have hNmb := hNmb'
              clear hNmb'
              clear hgT hbT hSWf hbWf
              try simp only [Act.put, List.setIfInBounds_toArray, List.set_cons_zero, List.set_cons_succ]
              refine wpAnyH_ready (rs := [9]) (by kernel_rfl) (by simp) ?_
              refine AllReadyH.cons (o := { dst := some 72, op := Op.call { callee := Callee.builtin Builtin.append, args := #[Operand.tmp 69, Operand.tmp 71], argTypes := #[26, 26] }, type := 26, pos := "law.go:126", after := #[{ on := 6, ground := Ground.data }, { on := 8, ground := Ground.data }, { on := 5, ground := Ground.chain }], guard := none }) rfl (fun K hK => ?_) AllReadyH.nil
              rw [if_pos (by rfl)]
              obtain ⟨ev2, Wh, hr, hSWh, hgT, hbT⟩ := hSWg.appD hed.out (fun j u hj => hNmb.at_ hj) (by omega)
              refine wp_append_run (by rfl) _ _ (by rfl) (by rfl) (hr _) ?_
              refine hK.out _ _ (hHeld.trans (keeps_row hgT (hKD.out))) (fun hHeld2 => ?_)
              clear hK K hr
              have hHeld := hHeld2
              clear hHeld2
              have hbWh := hbWg.trans (hbT.mono hwB)
              clear hgT hbT hSWg hbWg
              try simp only [Act.put, List.setIfInBounds_toArray, List.set_cons_zero, List.set_cons_succ]
              refine wpAnyH_take (i := 10) (oi := { dst := some 11, op := Op.assign (Operand.tmp 68), type := 29, pos := "law.go:126", after := #[{ on := 5, ground := Ground.data }, { on := 9, ground := Ground.chain }, { on := 0, ground := Ground.phase }, { on := 1, ground := Ground.phase }, { on := 2, ground := Ground.phase }, { on := 3, ground := Ground.phase }, { on := 4, ground := Ground.phase }, { on := 5, ground := Ground.phase }, { on := 6, ground := Ground.textOnly Departure.lateStores }, { on := 7, ground := Ground.textOnly Departure.lateStores }, { on := 8, ground := Ground.textOnly Departure.lateStores }, { on := 9, ground := Ground.textOnly Departure.lateStoresUnsure }], guard := none }) (v := ?_) rfl (by kernel_rfl) (by kernel_rfl) (by kernel_rfl) (fun _ _ _ h => h) (Or.inl ⟨by rfl, ?_⟩) hHeld ?_
              rotate_left
              · intro wz hSw
                go_simp
                all_goals (with_reducible rfl)
              try simp only [Act.put, List.setIfInBounds_toArray, List.set_cons_zero, List.set_cons_succ]
              refine wpAnyH_take (i := 11) (oi := { dst := some 12, op := Op.assign (Operand.tmp 72), type := 26, pos := "law.go:126", after := #[{ on := 9, ground := Ground.data }, { on := 10, ground := Ground.chain }, { on := 0, ground := Ground.phase }, { on := 1, ground := Ground.phase }, { on := 2, ground := Ground.phase }, { on := 3, ground := Ground.phase }, { on := 4, ground := Ground.phase }, { on := 5, ground := Ground.phase }, { on := 6, ground := Ground.phase }, { on := 7, ground := Ground.phase }, { on := 8, ground := Ground.phase }, { on := 9, ground := Ground.phase }, { on := 10, ground := Ground.phase }], guard := none }) (v := ?_) rfl (by kernel_rfl) (by kernel_rfl) (by kernel_rfl) (fun _ _ _ h => h) (Or.inl ⟨by rfl, ?_⟩) hHeld ?_
              rotate_left
              · intro wz hSw
                go_simp
                all_goals (with_reducible rfl)
              try simp only [Act.put, List.setIfInBounds_toArray, List.set_cons_zero, List.set_cons_succ]
              refine wpAnyH_done (by kernel_rfl) ?_ _
              exact KF _ _ nb mb _ hSWh hbWh
          case refine_2 =>
            rw [if_pos (by rfl)]
            refine wp_buildSlice_run _ _ _ rfl #[(0, .agg (bv e).toArray)] (by simp only [List.map_toArray, List.map_cons, List.map_nil]; rfl) (hsle.out _) ?_
            have hst := (Below.refl Wd.heap.size Wd).alloc (Nat.le_refl _) (.cells ((bv e) : List Value).toArray 23)
            have hNmb := Blk.new Wd 23 (bv e)
            have hlomb : wr.heap.size ≤ Wd.heap.size := hszWd
            change Below Wd.heap.size Wd (Wd.alloc (.cells ((bv e) : List Value).toArray 23)) at hst
            refine hK.out _ _ (hHeld.trans (Keeps.below hst)) (fun hHeld2 => ?_)
            clear hK K
            have hHeld := hHeld2
            clear hHeld2
            have hSWe := hSWd.below hst
            have hbWe := hbWd.trans (hst.mono hbWd.size)
            have hszWe : wr.heap.size ≤ (Wd.alloc (.cells ((bv e) : List Value).toArray 23)).heap.size := Nat.le_trans hlomb hst.size

            clear hst
            generalize Wd.alloc (.cells ((bv e) : List Value).toArray 23) = We at hHeld hSWe hbWe hszWe hNmb  ⊢
            generalize Wd.heap.size = mb at hNmb hlomb ⊢
            try simp only [Act.put, List.setIfInBounds_toArray, List.set_cons_zero, List.set_cons_succ]
            refine wpAnyH_ready (rs := [4]) (by kernel_rfl) (by simp) ?_
            refine AllReadyH.cons (o := { dst := some 67, op := Op.buildSlice 29 1 #[(0, Operand.tmp 66)], type := 29, pos := "law.go:126", after := #[{ on := 3, ground := Ground.data }], guard := none }) rfl (fun K hK => ?_) AllReadyH.nil
            rw [if_pos (by rfl)]
            show Oper.wp _ _ _ _ K _
            go_simp
            have hst := (Below.refl We.heap.size We).alloc (Nat.le_refl _) (.cells ([.string tq] : List Value).toArray 9)
            have hNnb := Blk.new We 9 [.string tq]
            have hlonb : wr.heap.size ≤ We.heap.size := hszWe
            change Below We.heap.size We (We.alloc (.cells ([.string tq] : List Value).toArray 9)) at hst
            refine hK.out _ _ (hHeld.trans (Keeps.below hst)) (fun hHeld2 => ?_)
            clear hK K
            have hHeld := hHeld2
            clear hHeld2
            have hSWf := hSWe.below hst
            have hbWf := hbWe.trans (hst.mono hbWe.size)
            have hszWf : wr.heap.size ≤ (We.alloc (.cells ([.string tq] : List Value).toArray 9)).heap.size := Nat.le_trans hlonb hst.size
            have hNmb' := hNmb.below hst hNmb.lt
            clear hNmb
            have hNmb := hNmb'
            clear hNmb'
            clear hst
            generalize We.alloc (.cells ([.string tq] : List Value).toArray 9) = Wf at hHeld hSWf hbWf hszWf hNnb hNmb ⊢
            generalize We.heap.size = nb at hNnb hlonb ⊢
            try simp only [Act.put, List.setIfInBounds_toArray, List.set_cons_zero, List.set_cons_succ]
            refine wpAnyH_ready (rs := [5]) (by kernel_rfl) (by simp) ?_
            refine AllReadyH.cons (o := { dst := some 68, op := Op.call { callee := Callee.builtin Builtin.append, args := #[Operand.tmp 63, Operand.tmp 67], argTypes := #[29, 29] }, type := 29, pos := "law.go:126", after := #[{ on := 0, ground := Ground.data }, { on := 4, ground := Ground.data }], guard := none }) rfl (fun K hK => ?_) AllReadyH.nil
            rw [if_pos (by rfl)]
            obtain ⟨tv2, Wg, hr, hSWg, hgT, hbT⟩ := hSWf.appT (hNnb.at_ (i := 0) rfl) (by omega)
            refine wp_append_run (by rfl) _ _ (by rfl) (by rfl) (hr _) ?_
            refine hK.out _ _ (hHeld.trans (keeps_row hgT (hKT.out))) (fun hHeld2 => ?_)
            clear hK K hr
            have hHeld := hHeld2
            clear hHeld2
            have hbWg := hbWf.trans (hbT.mono hwB)
            have hszWg : wr.heap.size ≤ Wg.heap.size := Nat.le_trans hszWf hbT.size
            have hNmb' := hNmb.grown hgT (fun e => by have := hKT2.out _ e.symm; omega)
            clear hNmb
            have hNmb := hNmb'
            clear hNmb'
            clear hgT hbT hSWf hbWf
            try simp only [Act.put, List.setIfInBounds_toArray, List.set_cons_zero, List.set_cons_succ]
            refine wpAnyH_ready (rs := [9]) (by kernel_rfl) (by simp) ?_
            refine AllReadyH.cons (o := { dst := some 72, op := Op.call { callee := Callee.builtin Builtin.append, args := #[Operand.tmp 69, Operand.tmp 71], argTypes := #[26, 26] }, type := 26, pos := "law.go:126", after := #[{ on := 6, ground := Ground.data }, { on := 8, ground := Ground.data }, { on := 5, ground := Ground.chain }], guard := none }) rfl (fun K hK => ?_) AllReadyH.nil
            rw [if_pos (by rfl)]
            obtain ⟨ev2, Wh, hr, hSWh, hgT, hbT⟩ := hSWg.appD hed.out (fun j u hj => hNmb.at_ hj) (by omega)
            refine wp_append_run (by rfl) _ _ (by rfl) (by rfl) (hr _) ?_
            refine hK.out _ _ (hHeld.trans (keeps_row hgT (hKD.out))) (fun hHeld2 => ?_)
            clear hK K hr
            have hHeld := hHeld2
            clear hHeld2
            have hbWh := hbWg.trans (hbT.mono hwB)
            clear hgT hbT hSWg hbWg
            try simp only [Act.put, List.setIfInBounds_toArray, List.set_cons_zero, List.set_cons_succ]
            refine wpAnyH_take (i := 10) (oi := { dst := some 11, op := Op.assign (Operand.tmp 68), type := 29, pos := "law.go:126", after := #[{ on := 5, ground := Ground.data }, { on := 9, ground := Ground.chain }, { on := 0, ground := Ground.phase }, { on := 1, ground := Ground.phase }, { on := 2, ground := Ground.phase }, { on := 3, ground := Ground.phase }, { on := 4, ground := Ground.phase }, { on := 5, ground := Ground.phase }, { on := 6, ground := Ground.textOnly Departure.lateStores }, { on := 7, ground := Ground.textOnly Departure.lateStores }, { on := 8, ground := Ground.textOnly Departure.lateStores }, { on := 9, ground := Ground.textOnly Departure.lateStoresUnsure }], guard := none }) (v := ?_) rfl (by kernel_rfl) (by kernel_rfl) (by kernel_rfl) (fun _ _ _ h => h) (Or.inl ⟨by rfl, ?_⟩) hHeld ?_
            rotate_left
            · intro wz hSw
              go_simp
              all_goals (with_reducible rfl)
            try simp only [Act.put, List.setIfInBounds_toArray, List.set_cons_zero, List.set_cons_succ]
            refine wpAnyH_take (i := 11) (oi := { dst := some 12, op := Op.assign (Operand.tmp 72), type := 26, pos := "law.go:126", after := #[{ on := 9, ground := Ground.data }, { on := 10, ground := Ground.chain }, { on := 0, ground := Ground.phase }, { on := 1, ground := Ground.phase }, { on := 2, ground := Ground.phase }, { on := 3, ground := Ground.phase }, { on := 4, ground := Ground.phase }, { on := 5, ground := Ground.phase }, { on := 6, ground := Ground.phase }, { on := 7, ground := Ground.phase }, { on := 8, ground := Ground.phase }, { on := 9, ground := Ground.phase }, { on := 10, ground := Ground.phase }], guard := none }) (v := ?_) rfl (by kernel_rfl) (by kernel_rfl) (by kernel_rfl) (fun _ _ _ h => h) (Or.inl ⟨by rfl, ?_⟩) hHeld ?_
            rotate_left
            · intro wz hSw
              go_simp
              all_goals (with_reducible rfl)
            try simp only [Act.put, List.setIfInBounds_toArray, List.set_cons_zero, List.set_cons_succ]
            refine wpAnyH_done (by kernel_rfl) ?_ _
            exact KF _ _ nb mb _ hSWh hbWh
        case kfa =>
          intro v1 v2 nb mb W12 hSx hbx
          have hSn : Hid (ClS B zb W12 v1 v2 (T.take (k + 1 + 1)) (Dg.take (k + 1 + 1)) (Go.Dr.climbD N D (path.take (k + 1)))) := by
            show ClS _ _ _ _ _ _ _ _
            rw [hts'.out, hds'.out, hcs'.out, hbo0.out, hte.out, hee.out]
            exact hSx
          have hbn := Lib.hid hbx
          have hq2 : Int.tdiv (m : Int) 2 = ((m / 2 : Nat) : Int) := by rw [Int.tdiv_eq_ediv_of_nonneg (by omega)]; omega
          clear hSx hbx
          go_wp2_with fail
          go_roundw
          case rel => exact ⟨k + 1, by omega, by rw [hm2.out]; simp, by go_num, hSn, hbn⟩
          case measure => simp [intOf]; omega
      · have hrm : Int.tmod (m : Int) 2 = 1 := by rw [Int.tmod_eq_emod_of_nonneg (by omega)]; omega
        have hbo : Go.Dr.bothD m d p = p ++ d := by unfold Go.Dr.bothD; rw [if_neg hpar]
        have hs1 := fun W => slice_atD W zb 0
        have hs2 := fun W => slice_atD W bp (op + k * 32)
        have hb8z := hb8.out.size
        go_upto_region 10 with fail
        have hp8 := Lib.hid (fun j u hj => (hb8.out.cell (p := ⟨bp, op + k * 32 + j, none⟩) hbpl).trans (hpr.out j u hj))
        refine wp_region_held_drew (S := fun wz => Below Wx2.heap.size Wx2 wz) (by kernel_rfl) ((Below.refl _ Wx2).drew) (fun hHeld => ?_)
        generalize hWd : Wx2.drew = Wd at *
        clear hWd
        refine wpAnyH_take (i := 1) (oi := { dst := some 54, op := Op.move (Operand.tmp 2), type := 26, pos := "law.go:123", after := #[], guard := none }) (v := ?_) rfl (by kernel_rfl) (by kernel_rfl) (by kernel_rfl) (fun _ _ _ h => h) (Or.inl ⟨by rfl, ?_⟩) hHeld ?_
        rotate_left
        · intro wz hSw
          go_simp
          all_goals (with_reducible rfl)
        try simp only [Act.put, List.setIfInBounds_toArray, List.set_cons_zero, List.set_cons_succ]
        refine wpAnyH_take (i := 2) (oi := { dst := some 55, op := Op.move (Operand.tmp 14), type := 3, pos := "law.go:123", after := #[], guard := none }) (v := ?_) rfl (by kernel_rfl) (by kernel_rfl) (by kernel_rfl) (fun _ _ _ h => h) (Or.inl ⟨by rfl, ?_⟩) hHeld ?_
        rotate_left
        · intro wz hSw
          go_simp
          all_goals (with_reducible rfl)
        try simp only [Act.put, List.setIfInBounds_toArray, List.set_cons_zero, List.set_cons_succ]
        refine wpAnyH_take (i := 3) (oi := { dst := some 56, op := Op.indexAddr 26 (Operand.tmp 54) (Operand.tmp 55), type := 0, pos := "law.go:123", after := #[{ on := 1, ground := Ground.data }, { on := 2, ground := Ground.data }], guard := none }) (v := ?_) rfl (by kernel_rfl) (by kernel_rfl) (by kernel_rfl) (fun _ _ _ h => h) (Or.inl ⟨by rfl, ?_⟩) hHeld ?_
        rotate_left
        · intro wz hSw
          have k0' := k0
          have k1' := k1
          go_simp
          all_goals (with_reducible rfl)
        try simp only [Act.put, List.setIfInBounds_toArray, List.set_cons_zero, List.set_cons_succ]
        refine wpAnyH_take (i := 4) (oi := { dst := some 57, op := Op.slice 23 (Operand.tmp 56) none none none, type := 56, pos := "law.go:123", after := #[{ on := 3, ground := Ground.data }], guard := none }) (v := ?_) rfl (by kernel_rfl) (by kernel_rfl) (by kernel_rfl) (fun _ _ _ h => h) (Or.inl ⟨by rfl, ?_⟩) hHeld ?_
        rotate_left
        · intro wz hSw
          have q2 := hs2 wz
          go_simp
          all_goals (with_reducible rfl)
        try simp only [Act.put, List.setIfInBounds_toArray, List.set_cons_zero, List.set_cons_succ]
        refine wpAnyH_take (i := 6) (oi := { dst := some 59, op := Op.slice 23 (Operand.tmp 10) none none none, type := 56, pos := "law.go:123", after := #[], guard := none }) (v := ?_) rfl (by kernel_rfl) (by kernel_rfl) (by kernel_rfl) (fun _ _ _ h => h) (Or.inl ⟨by rfl, ?_⟩) hHeld ?_
        rotate_left
        · intro wz hSw
          have q1 := hs1 wz
          go_simp
          all_goals (with_reducible rfl)
        try simp only [Act.put, List.setIfInBounds_toArray, List.set_cons_zero, List.set_cons_succ]
        refine wpAnyH_ready (rs := [0]) (by kernel_rfl) (by simp) ?_
        refine AllReadyH.cons (o := { dst := some 53, op := Op.buildSlice 56 0 #[], type := 56, pos := "law.go:123", after := #[], guard := none }) rfl (fun K hK => ?_) AllReadyH.nil
        rw [if_pos (by rfl)]
        show Oper.wp _ _ _ _ K _
        go_simp
        refine hK.out _ _ (hHeld.alloc hHeld.size _) (fun hHeld2 => ?_)
        have ho0 := own_new Wd
        have hWz := hHeld.size
        clear hHeld
        have hHeld := hHeld2
        clear hHeld2
        clear hK K
        try simp only [Act.put, List.setIfInBounds_toArray, List.set_cons_zero, List.set_cons_succ]
        refine wpAnyH_ready (rs := [5]) (by kernel_rfl) (by simp) ?_
        refine AllReadyH.cons (o := { dst := some 58, op := Op.call { callee := Callee.builtin Builtin.append, args := #[Operand.tmp 53, Operand.tmp 57], argTypes := #[56, 56] }, type := 56, pos := "law.go:123", after := #[{ on := 0, ground := Ground.data }, { on := 4, ground := Ground.data }], guard := none }) rfl (fun K hK => ?_) AllReadyH.nil
        rw [if_pos (by rfl)]
        obtain ⟨v1, Wy1, hr, ho1, hbx⟩ := append_by (B := Wd.heap.size) (w0 := (Wd.alloc (.cells #[] 5))) (a := ⟨bp, op + k * 32, none⟩) (m := 32) (c := 32) (l2 := p) ho0 (by simp) ((Below.refl _ _)) hpd.1 (fun j u hj => by rw [Addr.add_lit]; rw [hHeld.cell (p := ⟨bp, op + k * 32 + j, none⟩) (show bp < _ by have := hbpl; have := hb8z; omega)]; exact hp8.out j u hj) hpd.2 (by simp)
        refine wp_append_run (by rfl) _ _ (by rfl) (by rfl) (hr _) ?_
        refine hK.out _ _ (hHeld.trans (hbx.mono (by omega))) (fun hHeld2 => ?_)
        have hWz1 := hbx.size
        clear hHeld hr hbx
        have hHeld := hHeld2
        clear hHeld2
        clear hK K
        try simp only [Act.put, List.setIfInBounds_toArray, List.set_cons_zero, List.set_cons_succ]
        simp only [World.size_alloc] at hWz1
        simp only [List.nil_append] at ho1
        refine wpAnyH_ready (rs := [7]) (by kernel_rfl) (by simp) ?_
        refine AllReadyH.cons (o := { dst := some 60, op := Op.call { callee := Callee.builtin Builtin.append, args := #[Operand.tmp 58, Operand.tmp 59], argTypes := #[56, 56] }, type := 56, pos := "law.go:123", after := #[{ on := 5, ground := Ground.data }, { on := 6, ground := Ground.data }, { on := 5, ground := Ground.chain }], guard := none }) rfl (fun K hK => ?_) AllReadyH.nil
        rw [if_pos (by rfl)]
        obtain ⟨v2, Wy2, hr, ho2, hbx⟩ := append_by (B := Wd.heap.size) (w0 := Wy1) (a := ⟨zb, 0, none⟩) (m := 32) (c := 32) (l2 := d) ho1 (by omega) ((Below.refl _ _)) hdd.1 (fun j u hj => by rw [Addr.add_lit, Nat.zero_add]; exact (hS8.out.bz.below hHeld hS8.out.bz.lt).at_ hj) hdd.2 (by rw [hpd.1]; omega)
        refine wp_append_run (by rfl) _ _ (by rfl) (by rfl) (hr _) ?_
        refine hK.out _ _ (hHeld.trans (hbx.mono (by omega))) (fun hHeld2 => ?_)
        have hWz2 := hbx.size
        clear hHeld hr hbx
        have hHeld := hHeld2
        clear hHeld2
        clear hK K
        try simp only [Act.put, List.setIfInBounds_toArray, List.set_cons_zero, List.set_cons_succ]
        refine wpAnyH_take (i := 8) (oi := { dst := some 15, op := Op.assign (Operand.tmp 60), type := 56, pos := "law.go:123", after := #[{ on := 7, ground := Ground.data }, { on := 7, ground := Ground.chain }, { on := 0, ground := Ground.phase }, { on := 1, ground := Ground.phase }, { on := 2, ground := Ground.phase }, { on := 3, ground := Ground.phase }, { on := 4, ground := Ground.phase }, { on := 5, ground := Ground.phase }, { on := 6, ground := Ground.phase }, { on := 7, ground := Ground.phase }], guard := none }) (v := ?_) rfl (by kernel_rfl) (by kernel_rfl) (by kernel_rfl) (fun _ _ _ h => h) (Or.inl ⟨by rfl, ?_⟩) hHeld ?_
        rotate_left
        · intro wz hSw
          go_simp
          all_goals (with_reducible rfl)
        try simp only [Act.put, List.setIfInBounds_toArray, List.set_cons_zero, List.set_cons_succ]
        refine wpAnyH_done (by kernel_rfl) ?_ _
        have hb9 := Lib.hid hHeld
        have ho9' := ho2
        rw [← hbo] at ho9'
        have ho9 := Lib.hid ho9'
        clear hHeld ho2 ho1 hs1 hs2 ho8 ho9'
        have hS9 := Lib.hid (hS8.out.below hb9.out)
        have hb9w := Lib.hid (hb8w.out.trans (hb9.out.mono hb8w.out.size))
        go_upto_region 11 with fail
        obtain ⟨bq, hbq⟩ : ∃ b, Hid (Go.Dr.bothD m d p = b) := ⟨_, rfl⟩
        have hbl64 : bq.length = 64 := by rw [← hbq.out, hbo, List.length_append, hdd.1, hpd.1]
        have hoq := ho9.out
        rw [hbq.out] at hoq
        obtain ⟨pb, pc2, hve, hBY⟩ := BS.own hoq.1 hoq.2
        rw [hbl64] at hve hBY
        cases pb with
        | none => have := (hBY.nil rfl).1; omega
        | some ab =>
        obtain ⟨gb, og, hab, hgbl, _⟩ := hBY.cells0
        subst hab
        have hgb0 : Wd.heap.size ≤ gb := by
          have h := Sl.of_owns hoq.1
          obtain ⟨a', c', e', _, hs'⟩ := h
          rw [hve] at e'
          simp only [Value.slice.injEq] at e'
          obtain ⟨rfl, _, _⟩ := e'
          exact (hs' _ rfl).1
        subst hve
        have hbY := Lib.hid hBY
        have hgb : wr.heap.size ≤ gb := by have := hb8.out.size; omega
        clear hBY hoq hgb0
        have hbo0 : Hid (Go.Dr.bothD m d p = bq) := hbq
        go_wp2_with fail
        refine (tagged_any ⟨#[112, 97, 105, 114]⟩ (by decide) _ 64 pc2 bq _ (HT'.out.below hb9w.out) hbY.out (by omega)).mono ?_
        rintro e1 W10 ⟨rfl, hst⟩
        obtain ⟨e, hee⟩ : ∃ e, Hid (Go.Dr.stepD m d p = e) := ⟨_, rfl⟩
        have hee0 : Sha.tagged (octets ⟨#[112, 97, 105, 114]⟩) bq = e := by rw [← hee.out, ← hbq.out]; rfl
        rw [hee0]
        have hed : Hid (Dig e) := by rw [← hee.out]; exact ⟨Go.Dr.stepD_length m d p, Go.Dr.stepD_lt m d p⟩
        have hS10 := Lib.hid (hS9.out.below hst)
        have hb10 := Lib.hid (hb9w.out.trans (hst.mono hb9w.out.size))
        have hsz10 : wr.heap.size ≤ W10.heap.size := by have := hst.size; have := hgbl; omega
        have hbY10 := Lib.hid (hbY.out.below hst)
        have hgbl10 : gb < W10.heap.size := by have := hst.size; omega
        clear hst hee0
        obtain ⟨V11, hP11⟩ := put_row (ty := 23) hS10.out.bz (x := bv e) (by rw [bv_length, bv_length, hed.out.1, hdd.1]) (by rw [bv_length, hed.out.1]; exact size35) (bv_one e)
        have hP11' := Lib.hid hP11
        have hS11 := Lib.hid (hS10.out.setz hP11.grown hP11.blk)
        have hb11 := Lib.hid (below_grown hb10.out hP11.grown hb10.out.size hwz.out)
        have hsz11 : wr.heap.size ≤ V11.heap.size := by have := hP11.grown.size; omega
        have hbY11 := Lib.hid (hbY10.out.grown hP11.grown (fun ad e => by cases e; show gb ≠ zb; omega))
        have hie : Hid ((Tryd.prog.info? 23).map (·.size) = some (bv e).length) := by show _ = _; rw [bv_length, hed.out.1]; exact size35
        have hsle := Lib.hid (dig_slice1 hed.out.1)
        clear hP11 hS10 hb10 hbY10 hbY ho9
        go_upto_region 12 with (first
          | (refine wpList_store_mid (by rfl) 23 (.tmp 10) (.tmp 62) (by rfl) zb 0 (bv e).toArray (by rfl) (by rfl) hP11'.out.there hP11'.out.info (by simpa using hP11'.out.one) ?_
             generalize hWq : World.setCells _ _ _ _ = Wa
             obtain rfl : V11 = Wa := by rw [← hWq]; exact hP11'.out.eq
             clear hWq))
        clear hP11'
        have hcv12 : ∀ wz, Keeps (fun b => b = zb ∨ b = gb) V11 wz → (convert 56 9 (.slice (some ⟨gb, og, none⟩) 64 pc2)).run Tryd.prog wz = .ok (.string (txtB bq)) wz := fun wz h => bs_text (hbY11.out.keep h.size (fun b off e i => by
          simp only [Option.some.injEq, Addr.mk.injEq, and_true] at e
          obtain ⟨rfl, rfl⟩ := e
          exact h.cell (p := ⟨gb, i, none⟩) (hbY11.out.block_lt ⟨gb, og, none⟩ rfl) (.inr rfl)))
        have hz12 : Hid (∀ wz, Keeps (fun b => b = zb ∨ b = gb) V11 wz → wz.rangeAt zb 0 (bv e)) := fun wz h j u hj => by
          rw [h.cell (p := ⟨zb, 0 + j, none⟩) hS11.out.bz.lt (.inl rfl), Nat.zero_add]
          exact hS11.out.bz.at_ hj
        obtain ⟨tq, hte⟩ : ∃ t, Hid (pairT ++ txtB bq = t) := ⟨_, rfl⟩
        have htx12 : (⟨#[112, 97, 105, 114, 47]⟩ : ByteArray) ++ txtB bq = tq := hte.out
        have hs12 : (9223372036854775807 < 5 + (txtB bq).size) = False := by rw [eq_iff_iff, iff_false, txtB_size, hbl64]; omega
        have hs13 : (9223372036854775807 < (⟨#[112, 97, 105, 114, 47]⟩ : ByteArray).size + (txtB bq).size) = False := by rw [eq_iff_iff, iff_false, txtB_size, hbl64]; show ¬ _ < 5 + 64; omega
        have hKT : Hid (∀ b, (b = zb ∨ b = gb) → tv.ownBlock ≠ some b) := fun b hb e => by
          have h := World.ownsRow.lt hS.out.ot b e
          rcases hb with rfl | rfl <;> omega
        have hKD : Hid (∀ b, (b = zb ∨ b = gb) → ev.ownBlock ≠ some b) := fun b hb e => by
          have h := World.ownsRow.lt hS.out.od.1 b e
          rcases hb with rfl | rfl <;> omega
        have hKT2 : Hid (∀ k, tv.ownBlock = some k → k < wr.heap.size) := fun b e => (World.ownsRow.lt hS.out.ot b e).2
        have hwB : w.heap.size ≤ B := by have := hwz.out; omega
        refine wp_region_held_drew (S := fun wz => Keeps (fun b => b = zb ∨ b = gb) V11 wz) (by kernel_rfl) ((Keeps.below (Below.refl _ V11).drew)) (fun hHeld => ?_)
        have hS12 : ClS B zb V11.drew tv ev Tk Ek e := hS11.out.below (Below.refl _ V11).drew
        have hb12 : Below w.heap.size w V11.drew := hb11.out.drew
        have hsz12 : wr.heap.size ≤ V11.drew.heap.size := hsz11
        generalize hWd : V11.drew = Wd at *
        clear hWd
        refine wpAnyH_take (i := 0) (oi := { dst := some 63, op := Op.move (Operand.tmp 11), type := 29, pos := "law.go:126", after := #[], guard := none }) (v := ?_) rfl (by kernel_rfl) (by kernel_rfl) (by kernel_rfl) (fun _ _ _ h => h) (Or.inl ⟨by rfl, ?_⟩) hHeld ?_
        rotate_left
        · intro wz hSw
          go_simp
          all_goals (with_reducible rfl)
        try simp only [Act.put, List.setIfInBounds_toArray, List.set_cons_zero, List.set_cons_succ]
        refine wpAnyH_take (i := 1) (oi := { dst := some 64, op := Op.move (Operand.tmp 15), type := 56, pos := "law.go:126", after := #[], guard := none }) (v := ?_) rfl (by kernel_rfl) (by kernel_rfl) (by kernel_rfl) (fun _ _ _ h => h) (Or.inl ⟨by rfl, ?_⟩) hHeld ?_
        rotate_left
        · intro wz hSw
          go_simp
          all_goals (with_reducible rfl)
        try simp only [Act.put, List.setIfInBounds_toArray, List.set_cons_zero, List.set_cons_succ]
        refine wpAnyH_take (i := 2) (oi := { dst := some 65, op := Op.convert 56 9 (Operand.tmp 64), type := 9, pos := "law.go:126", after := #[{ on := 1, ground := Ground.data }], guard := none }) (v := ?_) rfl (by kernel_rfl) (by kernel_rfl) (by kernel_rfl) (fun _ _ _ h => h) (Or.inl ⟨by rfl, ?_⟩) hHeld ?_
        rotate_left
        · intro wz hSw
          have hc' := hcv12 wz hSw
          go_simp
          all_goals (with_reducible rfl)
        try simp only [Act.put, List.setIfInBounds_toArray, List.set_cons_zero, List.set_cons_succ]
        refine wpAnyH_take (i := 3) (oi := { dst := some 66, op := Op.binOp BinOp.add 9 (Operand.const (Value.string { data := #[112, 97, 105, 114, 47] })) (Operand.tmp 65) 9, type := 9, pos := "law.go:126", after := #[{ on := 2, ground := Ground.data }], guard := none }) (v := ?_) rfl (by kernel_rfl) (by kernel_rfl) (by kernel_rfl) (fun _ _ _ h => h) (Or.inl ⟨by rfl, ?_⟩) hHeld ?_
        rotate_left
        · intro wz hSw
          have ht' := htx12
          have hs' := hs12
          have hs3' := hs13
          go_simp
          all_goals (with_reducible rfl)
        try simp only [Act.put, List.setIfInBounds_toArray, List.set_cons_zero, List.set_cons_succ]
        refine wpAnyH_take (i := 6) (oi := { dst := some 69, op := Op.move (Operand.tmp 12), type := 26, pos := "law.go:126", after := #[], guard := none }) (v := ?_) rfl (by kernel_rfl) (by kernel_rfl) (by kernel_rfl) (fun _ _ _ h => h) (Or.inl ⟨by rfl, ?_⟩) hHeld ?_
        rotate_left
        · intro wz hSw
          go_simp
          all_goals (with_reducible rfl)
        try simp only [Act.put, List.setIfInBounds_toArray, List.set_cons_zero, List.set_cons_succ]
        refine wpAnyH_take (i := 7) (oi := { dst := some 70, op := Op.load 23 (Operand.tmp 10), type := 23, pos := "law.go:126", after := #[], guard := none }) rfl (by kernel_rfl) (by kernel_rfl) (by kernel_rfl) (fun _ _ _ h => h) (yieldsIf_load_mid (by rfl) _ _ rfl zb 0 rfl (bv e) _ (fun wz h => (hz12.out wz h)) Tryd.underlying23 rfl (hie.out)) hHeld ?_
        try simp only [Act.put, List.setIfInBounds_toArray, List.set_cons_zero, List.set_cons_succ]
        have hSWd := hS12
        have hbWd := hb12
        have hszWd := hsz12
        clear hS12 hb12
        refine share (G := ∀ v1 v2 nb mb W, ClS B zb W v1 v2 (Tk ++ [tq]) (Ek ++ [e]) e → Below w.heap.size w W → (?Gfb : Value → Value → Nat → Nat → World → Prop) v1 v2 nb mb W) ?hfb ?kfb
        case hfb =>
          intro KF
          refine wpAnyH_ready (rs := [4, 8]) (by kernel_rfl) (by simp) ?_
          refine AllReadyH.cons (o := { dst := some 67, op := Op.buildSlice 29 1 #[(0, Operand.tmp 66)], type := 29, pos := "law.go:126", after := #[{ on := 3, ground := Ground.data }], guard := none }) rfl (fun K hK => ?_) (AllReadyH.cons (o := { dst := some 71, op := Op.buildSlice 26 1 #[(0, Operand.tmp 70)], type := 26, pos := "law.go:126", after := #[{ on := 7, ground := Ground.data }], guard := none }) rfl (fun K hK => ?_) AllReadyH.nil)
          case refine_1 =>
            rw [if_pos (by rfl)]
            show Oper.wp _ _ _ _ K _
            go_simp
            have hst := (Below.refl Wd.heap.size Wd).alloc (Nat.le_refl _) (.cells ([.string tq] : List Value).toArray 9)
            have hNnb := Blk.new Wd 9 [.string tq]
            have hlonb : wr.heap.size ≤ Wd.heap.size := hszWd
            change Below Wd.heap.size Wd (Wd.alloc (.cells ([.string tq] : List Value).toArray 9)) at hst
            refine hK.out _ _ (hHeld.trans (Keeps.below hst)) (fun hHeld2 => ?_)
            clear hK K
            have hHeld := hHeld2
            clear hHeld2
            have hSWe := hSWd.below hst
            have hbWe := hbWd.trans (hst.mono hbWd.size)
            have hszWe : wr.heap.size ≤ (Wd.alloc (.cells ([.string tq] : List Value).toArray 9)).heap.size := Nat.le_trans hlonb hst.size

            clear hst
            generalize Wd.alloc (.cells ([.string tq] : List Value).toArray 9) = We at hHeld hSWe hbWe hszWe hNnb  ⊢
            generalize Wd.heap.size = nb at hNnb hlonb ⊢
            try simp only [Act.put, List.setIfInBounds_toArray, List.set_cons_zero, List.set_cons_succ]
            refine wpAnyH_ready (rs := [5, 8]) (by kernel_rfl) (by simp) ?_
            refine AllReadyH.cons (o := { dst := some 68, op := Op.call { callee := Callee.builtin Builtin.append, args := #[Operand.tmp 63, Operand.tmp 67], argTypes := #[29, 29] }, type := 29, pos := "law.go:126", after := #[{ on := 0, ground := Ground.data }, { on := 4, ground := Ground.data }], guard := none }) rfl (fun K hK => ?_) (AllReadyH.cons (o := { dst := some 71, op := Op.buildSlice 26 1 #[(0, Operand.tmp 70)], type := 26, pos := "law.go:126", after := #[{ on := 7, ground := Ground.data }], guard := none }) rfl (fun K hK => ?_) AllReadyH.nil)
            case refine_1 =>
              rw [if_pos (by rfl)]
              obtain ⟨tv2, Wf, hr, hSWf, hgT, hbT⟩ := hSWe.appT (hNnb.at_ (i := 0) rfl) (by omega)
              refine wp_append_run (by rfl) _ _ (by rfl) (by rfl) (hr _) ?_
              refine hK.out _ _ (hHeld.trans (keeps_row hgT (hKT.out))) (fun hHeld2 => ?_)
              clear hK K hr
              have hHeld := hHeld2
              clear hHeld2
              have hbWf := hbWe.trans (hbT.mono hwB)
              have hszWf : wr.heap.size ≤ Wf.heap.size := Nat.le_trans hszWe hbT.size

              clear hgT hbT hSWe hbWe
              try simp only [Act.put, List.setIfInBounds_toArray, List.set_cons_zero, List.set_cons_succ]
              refine wpAnyH_ready (rs := [8]) (by kernel_rfl) (by simp) ?_
              refine AllReadyH.cons (o := { dst := some 71, op := Op.buildSlice 26 1 #[(0, Operand.tmp 70)], type := 26, pos := "law.go:126", after := #[{ on := 7, ground := Ground.data }], guard := none }) rfl (fun K hK => ?_) AllReadyH.nil
              rw [if_pos (by rfl)]
              refine wp_buildSlice_run _ _ _ rfl #[(0, .agg (bv e).toArray)] (by simp only [List.map_toArray, List.map_cons, List.map_nil]; rfl) (hsle.out _) ?_
              have hst := (Below.refl Wf.heap.size Wf).alloc (Nat.le_refl _) (.cells ((bv e) : List Value).toArray 23)
              have hNmb := Blk.new Wf 23 (bv e)
              have hlomb : wr.heap.size ≤ Wf.heap.size := hszWf
              change Below Wf.heap.size Wf (Wf.alloc (.cells ((bv e) : List Value).toArray 23)) at hst
              refine hK.out _ _ (hHeld.trans (Keeps.below hst)) (fun hHeld2 => ?_)
              clear hK K
              have hHeld := hHeld2
              clear hHeld2
              have hSWg := hSWf.below hst
              have hbWg := hbWf.trans (hst.mono hbWf.size)
              have hszWg : wr.heap.size ≤ (Wf.alloc (.cells ((bv e) : List Value).toArray 23)).heap.size := Nat.le_trans hlomb hst.size

              clear hst
              generalize Wf.alloc (.cells ((bv e) : List Value).toArray 23) = Wg at hHeld hSWg hbWg hszWg hNmb  ⊢
              generalize Wf.heap.size = mb at hNmb hlomb ⊢
              try simp only [Act.put, List.setIfInBounds_toArray, List.set_cons_zero, List.set_cons_succ]
              refine wpAnyH_ready (rs := [9]) (by kernel_rfl) (by simp) ?_
              refine AllReadyH.cons (o := { dst := some 72, op := Op.call { callee := Callee.builtin Builtin.append, args := #[Operand.tmp 69, Operand.tmp 71], argTypes := #[26, 26] }, type := 26, pos := "law.go:126", after := #[{ on := 6, ground := Ground.data }, { on := 8, ground := Ground.data }, { on := 5, ground := Ground.chain }], guard := none }) rfl (fun K hK => ?_) AllReadyH.nil
              rw [if_pos (by rfl)]
              obtain ⟨ev2, Wh, hr, hSWh, hgT, hbT⟩ := hSWg.appD hed.out (fun j u hj => hNmb.at_ hj) (by omega)
              refine wp_append_run (by rfl) _ _ (by rfl) (by rfl) (hr _) ?_
              refine hK.out _ _ (hHeld.trans (keeps_row hgT (hKD.out))) (fun hHeld2 => ?_)
              clear hK K hr
              have hHeld := hHeld2
              clear hHeld2
              have hbWh := hbWg.trans (hbT.mono hwB)
              clear hgT hbT hSWg hbWg
              try simp only [Act.put, List.setIfInBounds_toArray, List.set_cons_zero, List.set_cons_succ]
              refine wpAnyH_take (i := 10) (oi := { dst := some 11, op := Op.assign (Operand.tmp 68), type := 29, pos := "law.go:126", after := #[{ on := 5, ground := Ground.data }, { on := 9, ground := Ground.chain }, { on := 0, ground := Ground.phase }, { on := 1, ground := Ground.phase }, { on := 2, ground := Ground.phase }, { on := 3, ground := Ground.phase }, { on := 4, ground := Ground.phase }, { on := 5, ground := Ground.phase }, { on := 6, ground := Ground.textOnly Departure.lateStores }, { on := 7, ground := Ground.textOnly Departure.lateStores }, { on := 8, ground := Ground.textOnly Departure.lateStores }, { on := 9, ground := Ground.textOnly Departure.lateStoresUnsure }], guard := none }) (v := ?_) rfl (by kernel_rfl) (by kernel_rfl) (by kernel_rfl) (fun _ _ _ h => h) (Or.inl ⟨by rfl, ?_⟩) hHeld ?_
              rotate_left
              · intro wz hSw
                go_simp
                all_goals (with_reducible rfl)
              try simp only [Act.put, List.setIfInBounds_toArray, List.set_cons_zero, List.set_cons_succ]
              refine wpAnyH_take (i := 11) (oi := { dst := some 12, op := Op.assign (Operand.tmp 72), type := 26, pos := "law.go:126", after := #[{ on := 9, ground := Ground.data }, { on := 10, ground := Ground.chain }, { on := 0, ground := Ground.phase }, { on := 1, ground := Ground.phase }, { on := 2, ground := Ground.phase }, { on := 3, ground := Ground.phase }, { on := 4, ground := Ground.phase }, { on := 5, ground := Ground.phase }, { on := 6, ground := Ground.phase }, { on := 7, ground := Ground.phase }, { on := 8, ground := Ground.phase }, { on := 9, ground := Ground.phase }, { on := 10, ground := Ground.phase }], guard := none }) (v := ?_) rfl (by kernel_rfl) (by kernel_rfl) (by kernel_rfl) (fun _ _ _ h => h) (Or.inl ⟨by rfl, ?_⟩) hHeld ?_
              rotate_left
              · intro wz hSw
                go_simp
                all_goals (with_reducible rfl)
              try simp only [Act.put, List.setIfInBounds_toArray, List.set_cons_zero, List.set_cons_succ]
              refine wpAnyH_done (by kernel_rfl) ?_ _
              exact KF _ _ nb mb _ hSWh hbWh
            case refine_2 =>
              rw [if_pos (by rfl)]
              refine wp_buildSlice_run _ _ _ rfl #[(0, .agg (bv e).toArray)] (by simp only [List.map_toArray, List.map_cons, List.map_nil]; rfl) (hsle.out _) ?_
              have hst := (Below.refl We.heap.size We).alloc (Nat.le_refl _) (.cells ((bv e) : List Value).toArray 23)
              have hNmb := Blk.new We 23 (bv e)
              have hlomb : wr.heap.size ≤ We.heap.size := hszWe
              change Below We.heap.size We (We.alloc (.cells ((bv e) : List Value).toArray 23)) at hst
              refine hK.out _ _ (hHeld.trans (Keeps.below hst)) (fun hHeld2 => ?_)
              clear hK K
              have hHeld := hHeld2
              clear hHeld2
              have hSWf := hSWe.below hst
              have hbWf := hbWe.trans (hst.mono hbWe.size)
              have hszWf : wr.heap.size ≤ (We.alloc (.cells ((bv e) : List Value).toArray 23)).heap.size := Nat.le_trans hlomb hst.size
              have hNnb' := hNnb.below hst hNnb.lt
              clear hNnb
              have hNnb := hNnb'
              clear hNnb'
              clear hst
              generalize We.alloc (.cells ((bv e) : List Value).toArray 23) = Wf at hHeld hSWf hbWf hszWf hNmb hNnb ⊢
              generalize We.heap.size = mb at hNmb hlomb ⊢
              try simp only [Act.put, List.setIfInBounds_toArray, List.set_cons_zero, List.set_cons_succ]
              refine wpAnyH_ready (rs := [5]) (by kernel_rfl) (by simp) ?_
              refine AllReadyH.cons (o := { dst := some 68, op := Op.call { callee := Callee.builtin Builtin.append, args := #[Operand.tmp 63, Operand.tmp 67], argTypes := #[29, 29] }, type := 29, pos := "law.go:126", after := #[{ on := 0, ground := Ground.data }, { on := 4, ground := Ground.data }], guard := none }) rfl (fun K hK => ?_) AllReadyH.nil
              rw [if_pos (by rfl)]
              obtain ⟨tv2, Wg, hr, hSWg, hgT, hbT⟩ := hSWf.appT (hNnb.at_ (i := 0) rfl) (by omega)
              refine wp_append_run (by rfl) _ _ (by rfl) (by rfl) (hr _) ?_
              refine hK.out _ _ (hHeld.trans (keeps_row hgT (hKT.out))) (fun hHeld2 => ?_)
              clear hK K hr
              have hHeld := hHeld2
              clear hHeld2
              have hbWg := hbWf.trans (hbT.mono hwB)
              have hszWg : wr.heap.size ≤ Wg.heap.size := Nat.le_trans hszWf hbT.size
              have hNmb' := hNmb.grown hgT (fun e => by have := hKT2.out _ e.symm; omega)
              clear hNmb
              have hNmb := hNmb'
              clear hNmb'
              clear hgT hbT hSWf hbWf
              try simp only [Act.put, List.setIfInBounds_toArray, List.set_cons_zero, List.set_cons_succ]
              refine wpAnyH_ready (rs := [9]) (by kernel_rfl) (by simp) ?_
              refine AllReadyH.cons (o := { dst := some 72, op := Op.call { callee := Callee.builtin Builtin.append, args := #[Operand.tmp 69, Operand.tmp 71], argTypes := #[26, 26] }, type := 26, pos := "law.go:126", after := #[{ on := 6, ground := Ground.data }, { on := 8, ground := Ground.data }, { on := 5, ground := Ground.chain }], guard := none }) rfl (fun K hK => ?_) AllReadyH.nil
              rw [if_pos (by rfl)]
              obtain ⟨ev2, Wh, hr, hSWh, hgT, hbT⟩ := hSWg.appD hed.out (fun j u hj => hNmb.at_ hj) (by omega)
              refine wp_append_run (by rfl) _ _ (by rfl) (by rfl) (hr _) ?_
              refine hK.out _ _ (hHeld.trans (keeps_row hgT (hKD.out))) (fun hHeld2 => ?_)
              clear hK K hr
              have hHeld := hHeld2
              clear hHeld2
              have hbWh := hbWg.trans (hbT.mono hwB)
              clear hgT hbT hSWg hbWg
              try simp only [Act.put, List.setIfInBounds_toArray, List.set_cons_zero, List.set_cons_succ]
              refine wpAnyH_take (i := 10) (oi := { dst := some 11, op := Op.assign (Operand.tmp 68), type := 29, pos := "law.go:126", after := #[{ on := 5, ground := Ground.data }, { on := 9, ground := Ground.chain }, { on := 0, ground := Ground.phase }, { on := 1, ground := Ground.phase }, { on := 2, ground := Ground.phase }, { on := 3, ground := Ground.phase }, { on := 4, ground := Ground.phase }, { on := 5, ground := Ground.phase }, { on := 6, ground := Ground.textOnly Departure.lateStores }, { on := 7, ground := Ground.textOnly Departure.lateStores }, { on := 8, ground := Ground.textOnly Departure.lateStores }, { on := 9, ground := Ground.textOnly Departure.lateStoresUnsure }], guard := none }) (v := ?_) rfl (by kernel_rfl) (by kernel_rfl) (by kernel_rfl) (fun _ _ _ h => h) (Or.inl ⟨by rfl, ?_⟩) hHeld ?_
              rotate_left
              · intro wz hSw
                go_simp
                all_goals (with_reducible rfl)
              try simp only [Act.put, List.setIfInBounds_toArray, List.set_cons_zero, List.set_cons_succ]
              refine wpAnyH_take (i := 11) (oi := { dst := some 12, op := Op.assign (Operand.tmp 72), type := 26, pos := "law.go:126", after := #[{ on := 9, ground := Ground.data }, { on := 10, ground := Ground.chain }, { on := 0, ground := Ground.phase }, { on := 1, ground := Ground.phase }, { on := 2, ground := Ground.phase }, { on := 3, ground := Ground.phase }, { on := 4, ground := Ground.phase }, { on := 5, ground := Ground.phase }, { on := 6, ground := Ground.phase }, { on := 7, ground := Ground.phase }, { on := 8, ground := Ground.phase }, { on := 9, ground := Ground.phase }, { on := 10, ground := Ground.phase }], guard := none }) (v := ?_) rfl (by kernel_rfl) (by kernel_rfl) (by kernel_rfl) (fun _ _ _ h => h) (Or.inl ⟨by rfl, ?_⟩) hHeld ?_
              rotate_left
              · intro wz hSw
                go_simp
                all_goals (with_reducible rfl)
              try simp only [Act.put, List.setIfInBounds_toArray, List.set_cons_zero, List.set_cons_succ]
              refine wpAnyH_done (by kernel_rfl) ?_ _
              exact KF _ _ nb mb _ hSWh hbWh
          case refine_2 =>
            rw [if_pos (by rfl)]
            refine wp_buildSlice_run _ _ _ rfl #[(0, .agg (bv e).toArray)] (by simp only [List.map_toArray, List.map_cons, List.map_nil]; rfl) (hsle.out _) ?_
            have hst := (Below.refl Wd.heap.size Wd).alloc (Nat.le_refl _) (.cells ((bv e) : List Value).toArray 23)
            have hNmb := Blk.new Wd 23 (bv e)
            have hlomb : wr.heap.size ≤ Wd.heap.size := hszWd
            change Below Wd.heap.size Wd (Wd.alloc (.cells ((bv e) : List Value).toArray 23)) at hst
            refine hK.out _ _ (hHeld.trans (Keeps.below hst)) (fun hHeld2 => ?_)
            clear hK K
            have hHeld := hHeld2
            clear hHeld2
            have hSWe := hSWd.below hst
            have hbWe := hbWd.trans (hst.mono hbWd.size)
            have hszWe : wr.heap.size ≤ (Wd.alloc (.cells ((bv e) : List Value).toArray 23)).heap.size := Nat.le_trans hlomb hst.size

            clear hst
            generalize Wd.alloc (.cells ((bv e) : List Value).toArray 23) = We at hHeld hSWe hbWe hszWe hNmb  ⊢
            generalize Wd.heap.size = mb at hNmb hlomb ⊢
            try simp only [Act.put, List.setIfInBounds_toArray, List.set_cons_zero, List.set_cons_succ]
            refine wpAnyH_ready (rs := [4]) (by kernel_rfl) (by simp) ?_
            refine AllReadyH.cons (o := { dst := some 67, op := Op.buildSlice 29 1 #[(0, Operand.tmp 66)], type := 29, pos := "law.go:126", after := #[{ on := 3, ground := Ground.data }], guard := none }) rfl (fun K hK => ?_) AllReadyH.nil
            rw [if_pos (by rfl)]
            show Oper.wp _ _ _ _ K _
            go_simp
            have hst := (Below.refl We.heap.size We).alloc (Nat.le_refl _) (.cells ([.string tq] : List Value).toArray 9)
            have hNnb := Blk.new We 9 [.string tq]
            have hlonb : wr.heap.size ≤ We.heap.size := hszWe
            change Below We.heap.size We (We.alloc (.cells ([.string tq] : List Value).toArray 9)) at hst
            refine hK.out _ _ (hHeld.trans (Keeps.below hst)) (fun hHeld2 => ?_)
            clear hK K
            have hHeld := hHeld2
            clear hHeld2
            have hSWf := hSWe.below hst
            have hbWf := hbWe.trans (hst.mono hbWe.size)
            have hszWf : wr.heap.size ≤ (We.alloc (.cells ([.string tq] : List Value).toArray 9)).heap.size := Nat.le_trans hlonb hst.size
            have hNmb' := hNmb.below hst hNmb.lt
            clear hNmb
            have hNmb := hNmb'
            clear hNmb'
            clear hst
            generalize We.alloc (.cells ([.string tq] : List Value).toArray 9) = Wf at hHeld hSWf hbWf hszWf hNnb hNmb ⊢
            generalize We.heap.size = nb at hNnb hlonb ⊢
            try simp only [Act.put, List.setIfInBounds_toArray, List.set_cons_zero, List.set_cons_succ]
            refine wpAnyH_ready (rs := [5]) (by kernel_rfl) (by simp) ?_
            refine AllReadyH.cons (o := { dst := some 68, op := Op.call { callee := Callee.builtin Builtin.append, args := #[Operand.tmp 63, Operand.tmp 67], argTypes := #[29, 29] }, type := 29, pos := "law.go:126", after := #[{ on := 0, ground := Ground.data }, { on := 4, ground := Ground.data }], guard := none }) rfl (fun K hK => ?_) AllReadyH.nil
            rw [if_pos (by rfl)]
            obtain ⟨tv2, Wg, hr, hSWg, hgT, hbT⟩ := hSWf.appT (hNnb.at_ (i := 0) rfl) (by omega)
            refine wp_append_run (by rfl) _ _ (by rfl) (by rfl) (hr _) ?_
            refine hK.out _ _ (hHeld.trans (keeps_row hgT (hKT.out))) (fun hHeld2 => ?_)
            clear hK K hr
            have hHeld := hHeld2
            clear hHeld2
            have hbWg := hbWf.trans (hbT.mono hwB)
            have hszWg : wr.heap.size ≤ Wg.heap.size := Nat.le_trans hszWf hbT.size
            have hNmb' := hNmb.grown hgT (fun e => by have := hKT2.out _ e.symm; omega)
            clear hNmb
            have hNmb := hNmb'
            clear hNmb'
            clear hgT hbT hSWf hbWf
            try simp only [Act.put, List.setIfInBounds_toArray, List.set_cons_zero, List.set_cons_succ]
            refine wpAnyH_ready (rs := [9]) (by kernel_rfl) (by simp) ?_
            refine AllReadyH.cons (o := { dst := some 72, op := Op.call { callee := Callee.builtin Builtin.append, args := #[Operand.tmp 69, Operand.tmp 71], argTypes := #[26, 26] }, type := 26, pos := "law.go:126", after := #[{ on := 6, ground := Ground.data }, { on := 8, ground := Ground.data }, { on := 5, ground := Ground.chain }], guard := none }) rfl (fun K hK => ?_) AllReadyH.nil
            rw [if_pos (by rfl)]
            obtain ⟨ev2, Wh, hr, hSWh, hgT, hbT⟩ := hSWg.appD hed.out (fun j u hj => hNmb.at_ hj) (by omega)
            refine wp_append_run (by rfl) _ _ (by rfl) (by rfl) (hr _) ?_
            refine hK.out _ _ (hHeld.trans (keeps_row hgT (hKD.out))) (fun hHeld2 => ?_)
            clear hK K hr
            have hHeld := hHeld2
            clear hHeld2
            have hbWh := hbWg.trans (hbT.mono hwB)
            clear hgT hbT hSWg hbWg
            try simp only [Act.put, List.setIfInBounds_toArray, List.set_cons_zero, List.set_cons_succ]
            refine wpAnyH_take (i := 10) (oi := { dst := some 11, op := Op.assign (Operand.tmp 68), type := 29, pos := "law.go:126", after := #[{ on := 5, ground := Ground.data }, { on := 9, ground := Ground.chain }, { on := 0, ground := Ground.phase }, { on := 1, ground := Ground.phase }, { on := 2, ground := Ground.phase }, { on := 3, ground := Ground.phase }, { on := 4, ground := Ground.phase }, { on := 5, ground := Ground.phase }, { on := 6, ground := Ground.textOnly Departure.lateStores }, { on := 7, ground := Ground.textOnly Departure.lateStores }, { on := 8, ground := Ground.textOnly Departure.lateStores }, { on := 9, ground := Ground.textOnly Departure.lateStoresUnsure }], guard := none }) (v := ?_) rfl (by kernel_rfl) (by kernel_rfl) (by kernel_rfl) (fun _ _ _ h => h) (Or.inl ⟨by rfl, ?_⟩) hHeld ?_
            rotate_left
            · intro wz hSw
              go_simp
              all_goals (with_reducible rfl)
            try simp only [Act.put, List.setIfInBounds_toArray, List.set_cons_zero, List.set_cons_succ]
            refine wpAnyH_take (i := 11) (oi := { dst := some 12, op := Op.assign (Operand.tmp 72), type := 26, pos := "law.go:126", after := #[{ on := 9, ground := Ground.data }, { on := 10, ground := Ground.chain }, { on := 0, ground := Ground.phase }, { on := 1, ground := Ground.phase }, { on := 2, ground := Ground.phase }, { on := 3, ground := Ground.phase }, { on := 4, ground := Ground.phase }, { on := 5, ground := Ground.phase }, { on := 6, ground := Ground.phase }, { on := 7, ground := Ground.phase }, { on := 8, ground := Ground.phase }, { on := 9, ground := Ground.phase }, { on := 10, ground := Ground.phase }], guard := none }) (v := ?_) rfl (by kernel_rfl) (by kernel_rfl) (by kernel_rfl) (fun _ _ _ h => h) (Or.inl ⟨by rfl, ?_⟩) hHeld ?_
            rotate_left
            · intro wz hSw
              go_simp
              all_goals (with_reducible rfl)
            try simp only [Act.put, List.setIfInBounds_toArray, List.set_cons_zero, List.set_cons_succ]
            refine wpAnyH_done (by kernel_rfl) ?_ _
            exact KF _ _ nb mb _ hSWh hbWh
        case kfb =>
          intro v1 v2 nb mb W12 hSx hbx
          have hSn : Hid (ClS B zb W12 v1 v2 (T.take (k + 1 + 1)) (Dg.take (k + 1 + 1)) (Go.Dr.climbD N D (path.take (k + 1)))) := by
            show ClS _ _ _ _ _ _ _ _
            rw [hts'.out, hds'.out, hcs'.out, hbo0.out, hte.out, hee.out]
            exact hSx
          have hbn := Lib.hid hbx
          have hq2 : Int.tdiv (m : Int) 2 = ((m / 2 : Nat) : Int) := by rw [Int.tdiv_eq_ediv_of_nonneg (by omega)]; omega
          clear hSx hbx
          go_wp2_with fail
          go_roundw
          case rel => exact ⟨k + 1, by omega, by rw [hm2.out]; simp, by go_num, hSn, hbn⟩
          case measure => simp [intOf]; omega
    · obtain rfl : k = n := by omega
      have hS2 := hS.out
      rw [List.take_of_length_le (by have := hTl.out; omega), List.take_of_length_le (by have := hDl.out; omega)] at hS2
      have hend := Lib.hid (hfin.out _ _ _ (hS2.ot.imp (by have := hwz.out; omega)) (hS2.od.imp (by have := hwz.out; omega)) hb.out)
      clear hS hS2
      go_wp2_with fail
      exact hend.out
end Go.Proofs.YthnfjkgiaanmhaaDoor
namespace Go.Proofs.YthnfjkgiaanmhaaDoor
open Go.RowKit Go.Mem
open Go.Dr (Lst Rt)

theorem leafD0_eq (x : Lst) (em : Bool) : leafD0 x em = Go.Dr.leafOf x em := by
  unfold leafD0 leafTag leafBs Go.Dr.leafOf
  cases em <;> rfl
theorem bothS_lt : ∀ (p : List (List Nat)) (n : Nat) (d : List Nat), (∀ u ∈ d, u < 256) → (∀ x ∈ p, ∀ u ∈ x, u < 256) → ∀ b ∈ Go.Dr.bothS n d p, ∀ u ∈ b, u < 256
  | [], _, _, _, _, b, hb => by simp [Go.Dr.bothS] at hb
  | x :: p, n, d, hd, hp, b, hb => by
    rw [Go.Dr.bothS, List.mem_cons] at hb
    rcases hb with rfl | hb
    · intro u hu
      unfold Go.Dr.bothD at hu
      split at hu
      · rcases List.mem_append.1 hu with h | h
        · exact hd u h
        · exact hp x (by simp) u h
      · rcases List.mem_append.1 hu with h | h
        · exact hp x (by simp) u h
        · exact hd u h
    · exact bothS_lt p (n / 2) _ (Go.Dr.stepD_lt n d x) (fun y hy => hp y (by simp [hy])) b hb
theorem pairT_inj {a b : ByteArray} (h : pairT ++ a = pairT ++ b) : a = b := by
  have e := congrArg (fun z : ByteArray => z.data.toList) h
  simp only [ByteArray.data_append, Array.toList_append, List.append_cancel_left_eq] at e
  cases a; cases b
  simp only at e
  congr 1
  exact Array.toList_inj.1 e
/-- two inputs with one hash. -/
structure OnceAt (T1 T2 : List ByteArray) (D1 D2 : List (List Nat)) (i : Nat) : Prop where
  wit : ∃ t1 t2 g, T1[i]? = some t1 ∧ T2[i]? = some t2 ∧ t1 ≠ t2 ∧ D1[i]? = some g ∧ D2[i]? = some g
theorem once_wit {root : List Nat} {x y : Lst} {nx ny : Bool} {path : List (List Nat)} (hp : ∀ x ∈ path, Dig x) (h1 : Go.Dr.verP root x nx path = true) (h2 : Go.Dr.verP root y ny path = true) (hd : x.dev = y.dev) (hne : textL x nx ≠ textL y ny) :
    ∃ i, OnceAt (textsC x nx path) (textsC y ny path) (digsC x nx path) (digsC y ny path) i := by
  by_cases h : leafD0 x nx = leafD0 y ny
  · exact ⟨0, ⟨_, _, leafD0 x nx, rfl, rfl, hne, rfl, by rw [h]; rfl⟩⟩
  · unfold Go.Dr.verP at h1 h2
    simp only [Bool.and_eq_true, decide_eq_true_iff] at h1 h2
    have e : Go.Dr.climbD (512 + x.dev.toNat) (leafD0 x nx) path = Go.Dr.climbD (512 + x.dev.toNat) (leafD0 y ny) path := by
      rw [leafD0_eq, leafD0_eq, h1.2]
      rw [hd]
      exact h2.2.symm
    obtain ⟨k, X, Y, g, a1, a2, a3, a4, a5⟩ := Go.Dr.once_go path (512 + x.dev.toNat) h e
    have hdx : ∀ u ∈ leafD0 x nx, u < 256 := Sha.tagged_lt _ _
    have hdy : ∀ u ∈ leafD0 y ny, u < 256 := Sha.tagged_lt _ _
    have hX := bothS_lt path (512 + x.dev.toNat) _ hdx (fun z hz => (hp z hz).2) X (List.mem_of_getElem? a1)
    have hY := bothS_lt path (512 + x.dev.toNat) _ hdy (fun z hz => (hp z hz).2) Y (List.mem_of_getElem? a2)
    refine ⟨k + 1, ⟨pairT ++ txtB X, pairT ++ txtB Y, g, ?_, ?_, fun he => a3 (txtB_inj hX hY (pairT_inj he)), ?_, ?_⟩⟩
    · unfold textsC; rw [List.getElem?_cons_succ, List.getElem?_map, a1]; rfl
    · unfold textsC; rw [List.getElem?_cons_succ, ← hd, List.getElem?_map, a2]; rfl
    · unfold digsC; rw [List.getElem?_cons_succ]; exact a4
    · unfold digsC; rw [List.getElem?_cons_succ, ← hd]; exact a5
theorem str_beq (a b : ByteArray) : (a == b) = decide (a.data = b.data) := by
  cases a with | mk x => cases b with | mk y =>
  have : ((ByteArray.mk x) == (ByteArray.mk y)) = (x == y) := by rfl
  rw [this, Bool.eq_iff_iff, beq_iff_eq, decide_eq_true_iff]
theorem str_ne {a b : ByteArray} (h : ¬ a = b) : (a == b) = false := by
  rw [str_beq, decide_eq_false_iff_not]
  intro e
  cases a; cases b
  simp only at e
  exact h (by rw [e])
theorem ownT_at {B : Nat} {W : World} {v : Value} {T : List ByteArray} (h : OwnT B W v T) (h0 : 0 < T.length) : ∃ g cap, v = .slice (some ⟨g, 0, none⟩) T.length cap ∧ g < W.heap.size ∧ ∀ (i : Nat) t, T[i]? = some t → W.cell? ⟨g, i, none⟩ = some (.string t) := by
  obtain ⟨g, cap, rest, rfl, _, hgl, hg, _, _, _⟩ := Sl.owns_row h h0
  refine ⟨g, cap, rfl, hgl, fun i t ht => ?_⟩
  refine Blk.at_ (t := 9) (cs := sv T ++ rest) hg ?_
  have hi := (List.getElem?_eq_some_iff.1 ht).1
  rw [List.getElem?_append_left (by unfold sv; simpa using hi)]
  unfold sv
  rw [List.getElem?_map, ht]; rfl
theorem ownD_at {B : Nat} {W : World} {v : Value} {ds : List (List Nat)} (h : OwnD B W v ds) (h0 : 0 < ds.length) : ∃ g cap, v = .slice (some ⟨g, 0, none⟩) ds.length cap ∧ g < W.heap.size ∧ ∀ (i : Nat) d, ds[i]? = some d → W.rangeAt g (i * 32) (bv d) := by
  obtain ⟨g, cap, rest, rfl, _, hgl, hg, _, _, _⟩ := Sl.owns_row h.1 h0
  refine ⟨g, cap, rfl, hgl, fun i d hd j u hj => ?_⟩
  refine Blk.at_ (t := 23) (cs := (ds.map bv).flatten ++ rest) hg ?_
  have hsz : ∀ r ∈ ds.map bv, r.length = 32 := by intro r hr; obtain ⟨x, hx, rfl⟩ := List.mem_map.1 hr; rw [bv_length]; exact (h.2 x hx).1
  have := flat_get hsz (i := i) (r := bv d) (by rw [List.getElem?_map, hd]; rfl) hj
  rw [List.getElem?_append_left (List.getElem?_eq_some_iff.1 this).1]
  exact this
theorem OwnT.below {B : Nat} {W W' : World} {v : Value} {T : List ByteArray} (h : OwnT B W v T) (hb : Below W.heap.size W W') : OwnT B W' v T := Sl.owns_below h hb (Nat.le_refl _)
theorem OwnD.below {B : Nat} {W W' : World} {v : Value} {ds : List (List Nat)} (h : OwnD B W v ds) (hb : Below W.heap.size W W') : OwnD B W' v ds := ⟨Sl.owns_below h.1 hb (Nat.le_refl _), h.2⟩

set_option maxRecDepth 100000 in
set_option maxHeartbeats 20000000 in
theorem once_walk (root : List Nat) (hro : Dig root) (x : Lst) (hx : OkG x) (y : Lst) (hy : OkG y) (nx ny : Bool) (a : Option Addr) (n c : Nat) (path : List (List Nat)) (w : World) (HT : Tabs w) (H : DS w a n c path) :
    Calls Tryd.prog 3 #[.agg (bv root).toArray, .agg (gC x).toArray, .agg (gC y).toArray, .bool nx, .bool ny, .slice a n c] w (RetBo true w) := by
  have HT' := Lib.hid HT; have H' := Lib.hid H; have hro' := Lib.hid hro; have hx' := Lib.hid hx; have hy' := Lib.hid hy
  have hlen : path.length = n := H.len
  have n63 : (n : Int) ≤ 9223372036854775807 := by have := H.le; have := H.max; omega
  clear HT H hro hx hy
  obtain ⟨X, hX⟩ : ∃ X, X = RetBo true w := ⟨_, rfl⟩
  obtain ⟨tb, htb⟩ : ∃ tb, Hid (w.heap.size = tb) := ⟨_, rfl⟩
  obtain ⟨xb, hxb⟩ : ∃ tb', Hid (tb + 1 = tb') := ⟨_, rfl⟩
  obtain ⟨yb, hyb⟩ : ∃ tb', Hid (xb + 1 = tb') := ⟨_, rfl⟩
  obtain ⟨W0, hW0⟩ : ∃ W, Hid (((w.alloc (.cells (bv root).toArray 23)).alloc (.cells (gC x).toArray 25)).alloc (.cells (gC y).toArray 25) = W) := ⟨_, rfl⟩
  have hB0 : Hid (Blk W0 tb 23 (bv root)) := by rw [← hW0.out, ← htb.out]; exact ((Blk.new w _ (bv root)).alloc _).alloc _
  have hX0 : Hid (Blk W0 xb 25 (gC x)) := by
    rw [← hW0.out, ← hxb.out, ← htb.out]
    have := (Blk.new (w.alloc (.cells (bv root).toArray 23)) 25 (gC x)).alloc (.cells (gC y).toArray 25)
    rwa [World.size_alloc] at this
  have hY0 : Hid (Blk W0 yb 25 (gC y)) := by
    rw [← hW0.out, ← hyb.out, ← hxb.out, ← htb.out]
    have := Blk.new ((w.alloc (.cells (bv root).toArray 23)).alloc (.cells (gC x).toArray 25)) 25 (gC y)
    rwa [World.size_alloc, World.size_alloc] at this
  have hb0 : Hid (Below w.heap.size w W0) := by rw [← hW0.out]; exact (((Below.refl _ w).alloc (Nat.le_refl _) _).alloc (by simp) _).alloc (by simp; omega) _
  have hfin : Hid (∀ W, Below w.heap.size w W → X (.returned (.bool true)) W) := fun W hb => by rw [hX]; exact ⟨rfl, hb⟩
  rw [← hX]
  clear hX
  have hbe : Hid ((bv root).length = 32) := by show _ = _; rw [bv_length, hro'.out.1]
  obtain ⟨rt, hrt⟩ : ∃ r, Hid (bv root = r) := ⟨_, rfl⟩
  have hri : Hid ((Tryd.prog.info? 23).map (·.size) = some rt.length) := by show _ = _; rw [← hrt.out, hbe.out]; exact size35
  have hW0q := hW0.out
  rw [hrt.out] at hB0 hW0q ⊢
  go_enter Tryd.func3, Tryd.ntmps3
  go_upto_region 1 with fail
  rw [htb.out, hxb.out, hyb.out]
  generalize hWz : World.alloc _ _ = Wz
  obtain rfl : W0 = Wz := by rw [← hWz]; exact hW0q.symm
  clear hWz hW0 hW0q
  go_wp2_with fail
  refine (sane35_any _ (HT'.out.below hb0.out)).mono ?_
  rintro e w1 ⟨rfl, hst⟩
  have hb1 := Lib.hid (hb0.out.trans (hst.mono hb0.out.size))
  have hB1 := Lib.hid (hB0.out.below hst hB0.out.lt)
  have hX1 := Lib.hid (hX0.out.below hst hX0.out.lt)
  have hY1 := Lib.hid (hY0.out.below hst hY0.out.lt)
  clear hst hB0 hX0 hY0 hb0
  have x0 := hX1.out.at_ (i := 0) (x := .int .i64 x.dev) rfl
  have y0 := hY1.out.at_ (i := 0) (x := .int .i64 y.dev) rfl
  have hend1 := Lib.hid (hfin.out _ hb1.out)
  have hgi : Hid (∀ z : Lst, (Tryd.prog.info? 25).map (·.size) = some (gC z).length) := fun z => sizeG
  by_cases hdd : x.dev = y.dev
  rotate_left
  · have hdd' : (x.dev == y.dev) = false := by simpa using hdd
    go_wp2_with fail
    exact hend1.out
  have hdd' : (x.dev == y.dev) = true := by simpa using hdd
  have hdh := Lib.hid hdd
  clear hdd
  by_cases hn : n ≤ 40
  rotate_left
  · have hn' : decide ((40 : Int) < (n : Int)) = true := by simp; omega
    go_wp2_with fail
    exact hend1.out
  have hn' : decide ((40 : Int) < (n : Int)) = false := by simp; omega
  have hrg1 := Lib.hid hB1.out.range
  have hrx1 := Lib.hid hX1.out.range
  have hv1 := Lib.hid (fun W hT hS => verify_any root hro'.out x hx'.out nx path a n c W hT hS)
  have hv2 := Lib.hid (fun W hT hS => verify_any root hro'.out y hy'.out ny path a n c W hT hS)
  have hgx := Lib.hid (hgi.out x)
  have hgy := Lib.hid (hgi.out y)
  have hcx := Lib.hid (fun h W hT hS => lclimb_any x nx a n c path h hn W hT hS)
  have hcy := Lib.hid (fun h W hT hS => lclimb_any y ny a n c path h hn W hT hS)
  obtain ⟨S1, hS1⟩ : ∃ S, Hid (Go.Dr.verP root x nx path = S) := ⟨_, rfl⟩
  obtain ⟨S2, hS2⟩ : ∃ S, Hid (Go.Dr.verP root y ny path = S) := ⟨_, rfl⟩
  rw [hS1.out, hrt.out] at hv1
  rw [hS2.out, hrt.out] at hv2
  obtain ⟨gx, hgxe⟩ : ∃ r, Hid (gC x = r) := ⟨_, rfl⟩
  obtain ⟨gy, hgye⟩ : ∃ r, Hid (gC y = r) := ⟨_, rfl⟩
  rw [hgxe.out] at hrx1 hgx hv1 hcx
  rw [hgye.out] at hgy hv2 hcy
  go_wp2_with (first
    | (refine wpList_load_gd (by rfl) 23 (.tmp 6) (by rfl) tb 0 (by rfl) rt _ hrg1.out Tryd.underlying23 (by rfl) hri.out ?_)
    | (refine wpList_load_gd (by rfl) 25 (.tmp 7) (by rfl) xb 0 (by rfl) gx _ hrx1.out Tryd.underlying25 (by rfl) hgx.out ?_))
  refine (hv1.out _ (HT'.out.below hb1.out) (H'.out.below hb1.out)).mono ?_
  rintro e w2 ⟨rfl, hst⟩
  have hb2 := Lib.hid (hb1.out.trans (hst.mono hb1.out.size))
  have hB2 := Lib.hid (hB1.out.below hst hB1.out.lt)
  have hX2 := Lib.hid (hX1.out.below hst hX1.out.lt)
  have hY2 := Lib.hid (hY1.out.below hst hY1.out.lt)
  have hend2 := Lib.hid (hfin.out _ hb2.out)
  clear hst hB1 hX1 hY1 hb1 x0 y0 hend1 hrg1 hrx1 hv1
  cases S1 with
  | false =>
    go_wp2_with fail
    exact hend2.out
  | true =>
    have hrg2 := Lib.hid hB2.out.range
    have hry2 := Lib.hid hY2.out.range
    rw [hgye.out] at hry2
    go_wp2_with (first
      | (refine wpList_load_gd (by rfl) 23 (.tmp 6) (by rfl) tb 0 (by rfl) rt _ hrg2.out Tryd.underlying23 (by rfl) hri.out ?_)
      | (refine wpList_load_gd (by rfl) 25 (.tmp 8) (by rfl) yb 0 (by rfl) gy _ hry2.out Tryd.underlying25 (by rfl) hgy.out ?_))
    refine (hv2.out _ (HT'.out.below hb2.out) (H'.out.below hb2.out)).mono ?_
    rintro e w3 ⟨rfl, hst⟩
    have hb3 := Lib.hid (hb2.out.trans (hst.mono hb2.out.size))
    have hX3 := Lib.hid (hX2.out.below hst hX2.out.lt)
    have hY3 := Lib.hid (hY2.out.below hst hY2.out.lt)
    have hend3 := Lib.hid (hfin.out _ hb3.out)
    clear hst hB2 hX2 hY2 hb2 hend2 hrg2 hry2 hv2
    cases S2 with
    | false =>
      go_wp2_with fail
      exact hend3.out
    | true =>
      have hpo := H'.out.ok
      have hw1 := hS1.out
      unfold Go.Dr.verP at hw1
      simp only [Bool.and_eq_true, decide_eq_true_iff] at hw1
      have hdx : 0 ≤ x.dev ∧ x.dev < 512 := hw1.1.1
      have hdy : 0 ≤ y.dev ∧ y.dev < 512 := by rw [← hdh.out]; exact hdx
      have h9 : Hid (path.length = 9) := hw1.1.2
      have hwit : Hid (textL x nx ≠ textL y ny → ∃ i, OnceAt (textsC x nx path) (textsC y ny path) (digsC x nx path) (digsC y ny path) i) := fun hne => once_wit (fun z hz => hpo z hz) hS1.out hS2.out hdh.out hne
      have hcx2 := Lib.hid (hcx.out hdx)
      have hcy2 := Lib.hid (hcy.out hdy)
      have hrx3 := Lib.hid hX3.out.range
      rw [hgxe.out] at hrx3
      clear hcx hcy hw1 hdx hdy hpo hS1 hS2
      go_wp2_with (first
        | (refine wpList_load_mid (by rfl) 25 (.tmp 7) (by rfl) xb 0 (by rfl) gx _ hrx3.out Tryd.underlying25 (by rfl) hgx.out ?_))
      refine (hcx2.out _ (HT'.out.below hb3.out) (H'.out.below hb3.out)).mono ?_
      rintro e w4 ⟨va, vp, rfl, hTa, hDp, hst⟩
      have hb4 := Lib.hid (hb3.out.trans (hst.mono hb3.out.size))
      have hY4 := Lib.hid (hY3.out.below hst hY3.out.lt)
      have hTa4 := Lib.hid hTa
      have hDp4 := Lib.hid hDp
      have hry4 := Lib.hid hY4.out.range
      rw [hgye.out] at hry4
      clear hst hTa hDp hX3 hY3 hb3 hend3 hcx2 hrx3
      go_wp2_with (first
        | (refine wpList_load_mid (by rfl) 25 (.tmp 8) (by rfl) yb 0 (by rfl) gy _ hry4.out Tryd.underlying25 (by rfl) hgy.out ?_))
      refine (hcy2.out _ (HT'.out.below hb4.out) (H'.out.below hb4.out)).mono ?_
      rintro e w5 ⟨vb, vq, rfl, hTb, hDq, hst⟩
      have hb5 := Lib.hid (hb4.out.trans (hst.mono hb4.out.size))
      have hTl1 : (textsC x nx path).length = 10 := by unfold textsC; rw [List.length_cons, List.length_map, Go.Dr.bothS_length, h9.out]
      have hTl2 : (textsC y ny path).length = 10 := by unfold textsC; rw [List.length_cons, List.length_map, Go.Dr.bothS_length, h9.out]
      have hDl1 : (digsC x nx path).length = 10 := by unfold digsC; rw [List.length_cons, List.length_map, Go.Dr.climbS_length, h9.out]
      have hDl2 : (digsC y ny path).length = 10 := by unfold digsC; rw [List.length_cons, List.length_map, Go.Dr.climbS_length, h9.out]
      have hok1 : ∀ d ∈ digsC x nx path, Dig d := fun d hd => hDp4.out.2 d hd
      have hok2 : ∀ d ∈ digsC y ny path, Dig d := fun d hd => hDq.2 d hd
      obtain ⟨ga, ca, rfl, hga, hca⟩ := ownT_at (hTa4.out.below hst) (by omega)
      obtain ⟨gb, cb, rfl, hgb, hcb⟩ := ownT_at hTb (by omega)
      obtain ⟨gp, cp, rfl, hgp, hcp⟩ := ownD_at (hDp4.out.below hst) (by omega)
      obtain ⟨gq, cq, rfl, hgq, hcq⟩ := ownD_at hDq (by omega)
      have hT0x : (textsC x nx path)[0]? = some (textL x nx) := rfl
      have hT0y : (textsC y ny path)[0]? = some (textL y ny) := rfl
      obtain ⟨T1, hT1⟩ : ∃ t, Hid (textsC x nx path = t) := ⟨_, rfl⟩
      obtain ⟨T2, hT2⟩ : ∃ t, Hid (textsC y ny path = t) := ⟨_, rfl⟩
      obtain ⟨D1, hD1⟩ : ∃ t, Hid (digsC x nx path = t) := ⟨_, rfl⟩
      obtain ⟨D2, hD2⟩ : ∃ t, Hid (digsC y ny path = t) := ⟨_, rfl⟩
      obtain ⟨s1, hs1⟩ : ∃ t, Hid (textL x nx = t) := ⟨_, rfl⟩
      obtain ⟨s2, hs2⟩ : ∃ t, Hid (textL y ny = t) := ⟨_, rfl⟩
      rw [hT1.out] at hTl1 hca hwit hT0x ⊢
      rw [hT2.out] at hTl2 hcb hwit hT0y ⊢
      rw [hD1.out] at hDl1 hcp hwit hok1 ⊢
      rw [hD2.out] at hDl2 hcq hwit hok2 ⊢
      rw [hs1.out] at hwit hT0x
      rw [hs2.out] at hwit hT0y
      rw [hTl1, hTl2, hDl1, hDl2]
      have hca' := Lib.hid hca; have hcb' := Lib.hid hcb; have hcp' := Lib.hid hcp; have hcq' := Lib.hid hcq
      have q0 := hca 0 _ hT0x
      have q1 := hcb 0 _ hT0y
      have hok1' := Lib.hid hok1; have hok2' := Lib.hid hok2
      have hl1 := Lib.hid hTl1; have hl2 := Lib.hid hTl2; have hl3 := Lib.hid hDl1; have hl4 := Lib.hid hDl2
      clear hst hTa4 hDp4 hTb hDq hb4 hY4 hry4 hcy2 hca hcb hcp hcq hT0x hT0y hok1 hok2 hTl1 hTl2 hDl1 hDl2 hT1 hT2 hD1 hD2 hs1 hs2
      go_upto_region 7 with fail
      by_cases hs : s1 = s2
      · have hse : (s1.toList == s2.toList) = true := by rw [← beq_toListBytes, str_beq, hs, decide_eq_true rfl]
        refine wp_region_held_drew (S := fun wz => Below w5.heap.size w5 wz) (by kernel_rfl) ((Below.refl _ w5).drew) (fun hHeld => ?_)
        generalize hWd : w5.drew = Wd at *
        clear hWd
        refine wpAnyH_take (i := 0) (oi := { dst := some 60, op := Op.move (Operand.tmp 13), type := 29, pos := "law.go:142", after := #[], guard := none }) (v := ?_) rfl (by kernel_rfl) (by kernel_rfl) (by kernel_rfl) (fun _ _ _ h => h) (Or.inl ⟨by rfl, ?_⟩) hHeld ?_
        rotate_left
        · intro wz hSw
          go_simp
          all_goals (with_reducible rfl)
        try simp only [Act.put, List.setIfInBounds_toArray, List.set_cons_zero, List.set_cons_succ]
        refine wpAnyH_take (i := 1) (oi := { dst := some 61, op := Op.indexAddr 29 (Operand.tmp 60) (Operand.const (Value.int IntKind.i64 0)), type := 0, pos := "law.go:142", after := #[{ on := 0, ground := Ground.data }], guard := none }) (v := ?_) rfl (by kernel_rfl) (by kernel_rfl) (by kernel_rfl) (fun _ _ _ h => h) (Or.inl ⟨by rfl, ?_⟩) hHeld ?_
        rotate_left
        · intro wz hSw
          go_simp
          all_goals (with_reducible rfl)
        try simp only [Act.put, List.setIfInBounds_toArray, List.set_cons_zero, List.set_cons_succ]
        refine wpAnyH_take (i := 2) (oi := { dst := some 62, op := Op.load 9 (Operand.tmp 61), type := 9, pos := "law.go:142", after := #[{ on := 1, ground := Ground.data }], guard := none }) (v := ?_) rfl (by kernel_rfl) (by kernel_rfl) (by kernel_rfl) (fun _ _ _ h => h) (Or.inl ⟨by rfl, ?_⟩) hHeld ?_
        rotate_left
        · intro wz hSw
          have q0' : wz.cell? ⟨ga, 0, none⟩ = some (.string s1) := by rw [hSw.cell (p := ⟨ga, 0, none⟩) hga]; exact q0
          go_simp
          all_goals (with_reducible rfl)
        try simp only [Act.put, List.setIfInBounds_toArray, List.set_cons_zero, List.set_cons_succ]
        refine wpAnyH_take (i := 3) (oi := { dst := some 63, op := Op.move (Operand.tmp 15), type := 29, pos := "law.go:142", after := #[], guard := none }) (v := ?_) rfl (by kernel_rfl) (by kernel_rfl) (by kernel_rfl) (fun _ _ _ h => h) (Or.inl ⟨by rfl, ?_⟩) hHeld ?_
        rotate_left
        · intro wz hSw
          go_simp
          all_goals (with_reducible rfl)
        try simp only [Act.put, List.setIfInBounds_toArray, List.set_cons_zero, List.set_cons_succ]
        refine wpAnyH_take (i := 4) (oi := { dst := some 64, op := Op.indexAddr 29 (Operand.tmp 63) (Operand.const (Value.int IntKind.i64 0)), type := 0, pos := "law.go:142", after := #[{ on := 3, ground := Ground.data }], guard := none }) (v := ?_) rfl (by kernel_rfl) (by kernel_rfl) (by kernel_rfl) (fun _ _ _ h => h) (Or.inl ⟨by rfl, ?_⟩) hHeld ?_
        rotate_left
        · intro wz hSw
          go_simp
          all_goals (with_reducible rfl)
        try simp only [Act.put, List.setIfInBounds_toArray, List.set_cons_zero, List.set_cons_succ]
        refine wpAnyH_take (i := 5) (oi := { dst := some 65, op := Op.load 9 (Operand.tmp 64), type := 9, pos := "law.go:142", after := #[{ on := 4, ground := Ground.data }], guard := none }) (v := ?_) rfl (by kernel_rfl) (by kernel_rfl) (by kernel_rfl) (fun _ _ _ h => h) (Or.inl ⟨by rfl, ?_⟩) hHeld ?_
        rotate_left
        · intro wz hSw
          have q1' : wz.cell? ⟨gb, 0, none⟩ = some (.string s2) := by rw [hSw.cell (p := ⟨gb, 0, none⟩) hgb]; exact q1
          go_simp
          all_goals (with_reducible rfl)
        try simp only [Act.put, List.setIfInBounds_toArray, List.set_cons_zero, List.set_cons_succ]
        refine wpAnyH_take (i := 6) (oi := { dst := some 66, op := Op.binOp BinOp.eql 9 (Operand.tmp 62) (Operand.tmp 65) 9, type := 4, pos := "law.go:142", after := #[{ on := 2, ground := Ground.data }, { on := 5, ground := Ground.data }], guard := none }) (v := ?_) rfl (by kernel_rfl) (by kernel_rfl) (by kernel_rfl) (fun _ _ _ h => h) (Or.inl ⟨by rfl, ?_⟩) hHeld ?_
        rotate_left
        · intro wz hSw
          have he' := hse
          go_simp
          all_goals (with_reducible rfl)
        try simp only [Act.put, List.setIfInBounds_toArray, List.set_cons_zero, List.set_cons_succ]
        refine wpAnyH_done (by kernel_rfl) ?_ _
        have hend := Lib.hid (hfin.out _ (hb5.out.trans (hHeld.mono hb5.out.size)))
        clear hHeld q0 q1
        go_wp2_with fail
        exact hend.out
      · have hse : (s1.toList == s2.toList) = false := by rw [← beq_toListBytes]; exact str_ne hs
        obtain ⟨i0, hi0⟩ := hwit.out hs
        obtain ⟨t1, t2, g0, hit1, hit2, hine, hig1, hig2⟩ := hi0.wit
        have hi10 : i0 < 10 := by rw [← hl1.out]; exact (List.getElem?_eq_some_iff.1 hit1).1
        have hit1' := Lib.hid hit1; have hit2' := Lib.hid hit2; have hine' := Lib.hid hine; have hig1' := Lib.hid hig1; have hig2' := Lib.hid hig2
        clear hi0 hit1 hit2 hine hig1 hig2 hwit hs
        refine wp_region_held_drew (S := fun wz => Below w5.heap.size w5 wz) (by kernel_rfl) ((Below.refl _ w5).drew) (fun hHeld => ?_)
        generalize hWd : w5.drew = Wd at *
        clear hWd
        refine wpAnyH_take (i := 0) (oi := { dst := some 60, op := Op.move (Operand.tmp 13), type := 29, pos := "law.go:142", after := #[], guard := none }) (v := ?_) rfl (by kernel_rfl) (by kernel_rfl) (by kernel_rfl) (fun _ _ _ h => h) (Or.inl ⟨by rfl, ?_⟩) hHeld ?_
        rotate_left
        · intro wz hSw
          go_simp
          all_goals (with_reducible rfl)
        try simp only [Act.put, List.setIfInBounds_toArray, List.set_cons_zero, List.set_cons_succ]
        refine wpAnyH_take (i := 1) (oi := { dst := some 61, op := Op.indexAddr 29 (Operand.tmp 60) (Operand.const (Value.int IntKind.i64 0)), type := 0, pos := "law.go:142", after := #[{ on := 0, ground := Ground.data }], guard := none }) (v := ?_) rfl (by kernel_rfl) (by kernel_rfl) (by kernel_rfl) (fun _ _ _ h => h) (Or.inl ⟨by rfl, ?_⟩) hHeld ?_
        rotate_left
        · intro wz hSw
          go_simp
          all_goals (with_reducible rfl)
        try simp only [Act.put, List.setIfInBounds_toArray, List.set_cons_zero, List.set_cons_succ]
        refine wpAnyH_take (i := 2) (oi := { dst := some 62, op := Op.load 9 (Operand.tmp 61), type := 9, pos := "law.go:142", after := #[{ on := 1, ground := Ground.data }], guard := none }) (v := ?_) rfl (by kernel_rfl) (by kernel_rfl) (by kernel_rfl) (fun _ _ _ h => h) (Or.inl ⟨by rfl, ?_⟩) hHeld ?_
        rotate_left
        · intro wz hSw
          have q0' : wz.cell? ⟨ga, 0, none⟩ = some (.string s1) := by rw [hSw.cell (p := ⟨ga, 0, none⟩) hga]; exact q0
          go_simp
          all_goals (with_reducible rfl)
        try simp only [Act.put, List.setIfInBounds_toArray, List.set_cons_zero, List.set_cons_succ]
        refine wpAnyH_take (i := 3) (oi := { dst := some 63, op := Op.move (Operand.tmp 15), type := 29, pos := "law.go:142", after := #[], guard := none }) (v := ?_) rfl (by kernel_rfl) (by kernel_rfl) (by kernel_rfl) (fun _ _ _ h => h) (Or.inl ⟨by rfl, ?_⟩) hHeld ?_
        rotate_left
        · intro wz hSw
          go_simp
          all_goals (with_reducible rfl)
        try simp only [Act.put, List.setIfInBounds_toArray, List.set_cons_zero, List.set_cons_succ]
        refine wpAnyH_take (i := 4) (oi := { dst := some 64, op := Op.indexAddr 29 (Operand.tmp 63) (Operand.const (Value.int IntKind.i64 0)), type := 0, pos := "law.go:142", after := #[{ on := 3, ground := Ground.data }], guard := none }) (v := ?_) rfl (by kernel_rfl) (by kernel_rfl) (by kernel_rfl) (fun _ _ _ h => h) (Or.inl ⟨by rfl, ?_⟩) hHeld ?_
        rotate_left
        · intro wz hSw
          go_simp
          all_goals (with_reducible rfl)
        try simp only [Act.put, List.setIfInBounds_toArray, List.set_cons_zero, List.set_cons_succ]
        refine wpAnyH_take (i := 5) (oi := { dst := some 65, op := Op.load 9 (Operand.tmp 64), type := 9, pos := "law.go:142", after := #[{ on := 4, ground := Ground.data }], guard := none }) (v := ?_) rfl (by kernel_rfl) (by kernel_rfl) (by kernel_rfl) (fun _ _ _ h => h) (Or.inl ⟨by rfl, ?_⟩) hHeld ?_
        rotate_left
        · intro wz hSw
          have q1' : wz.cell? ⟨gb, 0, none⟩ = some (.string s2) := by rw [hSw.cell (p := ⟨gb, 0, none⟩) hgb]; exact q1
          go_simp
          all_goals (with_reducible rfl)
        try simp only [Act.put, List.setIfInBounds_toArray, List.set_cons_zero, List.set_cons_succ]
        refine wpAnyH_take (i := 6) (oi := { dst := some 66, op := Op.binOp BinOp.eql 9 (Operand.tmp 62) (Operand.tmp 65) 9, type := 4, pos := "law.go:142", after := #[{ on := 2, ground := Ground.data }, { on := 5, ground := Ground.data }], guard := none }) (v := ?_) rfl (by kernel_rfl) (by kernel_rfl) (by kernel_rfl) (fun _ _ _ h => h) (Or.inl ⟨by rfl, ?_⟩) hHeld ?_
        rotate_left
        · intro wz hSw
          have he' := hse
          go_simp
          all_goals (with_reducible rfl)
        try simp only [Act.put, List.setIfInBounds_toArray, List.set_cons_zero, List.set_cons_succ]
        refine wpAnyH_done (by kernel_rfl) ?_ _
        have hb6 := Lib.hid hHeld
        clear hHeld q0 q1 hse
        go_wp2_with fail
        go_loopw [17] (fun iv wr => ∃ k : Nat, k ≤ i0 ∧ iv = .int .i64 (k : Int) ∧ Hid (Below w5.heap.size w5 wr)) (fun iv _ => 10 - (intOf iv).toNat)
        case atStart => exact ⟨0, Nat.zero_le _, rfl, hb6⟩
        case round =>
          obtain ⟨k, hk, rfl, hbr⟩ := hrel
          have hk1 : k < T1.length := by rw [hl1.out]; omega
          have hk2 : k < T2.length := by rw [hl2.out]; omega
          have hk3 : k < D1.length := by rw [hl3.out]; omega
          have hk4 : k < D2.length := by rw [hl4.out]; omega
          obtain ⟨ta, hta⟩ : ∃ t, T1[k]? = some t := ⟨_, List.getElem?_eq_getElem hk1⟩
          obtain ⟨tc, htc⟩ : ∃ t, T2[k]? = some t := ⟨_, List.getElem?_eq_getElem hk2⟩
          obtain ⟨da, hda⟩ : ∃ t, D1[k]? = some t := ⟨_, List.getElem?_eq_getElem hk3⟩
          obtain ⟨dc, hdc⟩ : ∃ t, D2[k]? = some t := ⟨_, List.getElem?_eq_getElem hk4⟩
          have hda1 := hok1'.out da (List.mem_of_getElem? hda)
          have hdc1 := hok2'.out dc (List.mem_of_getElem? hdc)
          have e1 : Hid (∀ wz, Below wr.heap.size wr wz → wz.cell? ⟨ga, k, none⟩ = some (.string ta)) := fun wz h => by
            rw [(hbr.out.trans (h.mono hbr.out.size)).cell (p := ⟨ga, k, none⟩) hga]; exact hca'.out k ta hta
          have e2 : Hid (∀ wz, Below wr.heap.size wr wz → wz.cell? ⟨gb, k, none⟩ = some (.string tc)) := fun wz h => by
            rw [(hbr.out.trans (h.mono hbr.out.size)).cell (p := ⟨gb, k, none⟩) hgb]; exact hcb'.out k tc htc
          have e3 : Hid (∀ wz, Below wr.heap.size wr wz → wz.rangeAt gp (k * 32) (bv da)) := fun wz h j u hj => by
            rw [(hbr.out.trans (h.mono hbr.out.size)).cell (p := ⟨gp, k * 32 + j, none⟩) hgp]; exact hcp'.out k da hda j u hj
          have e4 : Hid (∀ wz, Below wr.heap.size wr wz → wz.rangeAt gq (k * 32) (bv dc)) := fun wz h j u hj => by
            rw [(hbr.out.trans (h.mono hbr.out.size)).cell (p := ⟨gq, k * 32 + j, none⟩) hgq]; exact hcq'.out k dc hdc j u hj
          have i1 : Hid ((Tryd.prog.info? 23).map (·.size) = some (bv da).length) := by show _ = _; rw [bv_length, hda1.1]; exact size35
          have i2 : Hid ((Tryd.prog.info? 23).map (·.size) = some (bv dc).length) := by show _ = _; rw [bv_length, hdc1.1]; exact size35
          have heq := fun W => eq_dig hda1 hdc1 W
          have hstop : Hid (k = i0 → ta ≠ tc ∧ da = dc) := fun e => by
            subst e
            have a1 := hit1'.out; rw [hta] at a1; cases a1
            have a2 := hit2'.out; rw [htc] at a2; cases a2
            have a3 := hig1'.out; rw [hda] at a3; cases a3
            have a4 := hig2'.out; rw [hdc] at a4; cases a4
            exact ⟨hine'.out, rfl⟩
          obtain ⟨G, hG⟩ : ∃ G, decide (da = dc) = G := ⟨_, rfl⟩
          rw [hG] at heq
          have hGd : Hid (G = true ↔ da = dc) := by rw [← hG]; exact decide_eq_true_iff
          obtain ⟨ra, hra⟩ : ∃ r, Hid (bv da = r) := ⟨_, rfl⟩
          obtain ⟨rc, hrc⟩ : ∃ r, Hid (bv dc = r) := ⟨_, rfl⟩
          rw [hra.out] at e3 i1 heq
          rw [hrc.out] at e4 i2 heq
          have k0 : (0 : Int) ≤ (k : Int) := by omega
          have k1 : (k : Int) < 10 := by omega
          have k2 : k < 10 := by omega
          clear hk1 hk2 hk3 hk4 hta htc hda hdc hda1 hdc1 hG
          go_upto_region 12 with fail
          by_cases hs : ta = tc
          · have hse : (ta.toList == tc.toList) = true := by rw [← beq_toListBytes, str_beq, hs, decide_eq_true rfl]
            have hki : k ≠ i0 := fun e => (hstop.out e).1 hs
            refine wp_region_held_drew (S := fun wz => Below wr.heap.size wr wz) (by kernel_rfl) ((Below.refl _ wr).drew) (fun hHeld => ?_)
            generalize hWd : wr.drew = Wd at *
            clear hWd
            refine wpAnyH_take (i := 0) (oi := { dst := some 73, op := Op.move (Operand.tmp 13), type := 29, pos := "law.go:146", after := #[], guard := none }) (v := ?_) rfl (by kernel_rfl) (by kernel_rfl) (by kernel_rfl) (fun _ _ _ h => h) (Or.inl ⟨by rfl, ?_⟩) hHeld ?_
            rotate_left
            · intro wz hSw
              go_simp
              all_goals (with_reducible rfl)
            try simp only [Act.put, List.setIfInBounds_toArray, List.set_cons_zero, List.set_cons_succ]
            refine wpAnyH_take (i := 1) (oi := { dst := some 74, op := Op.move (Operand.tmp 17), type := 3, pos := "law.go:146", after := #[], guard := none }) (v := ?_) rfl (by kernel_rfl) (by kernel_rfl) (by kernel_rfl) (fun _ _ _ h => h) (Or.inl ⟨by rfl, ?_⟩) hHeld ?_
            rotate_left
            · intro wz hSw
              go_simp
              all_goals (with_reducible rfl)
            try simp only [Act.put, List.setIfInBounds_toArray, List.set_cons_zero, List.set_cons_succ]
            refine wpAnyH_take (i := 2) (oi := { dst := some 75, op := Op.indexAddr 29 (Operand.tmp 73) (Operand.tmp 74), type := 0, pos := "law.go:146", after := #[{ on := 0, ground := Ground.data }, { on := 1, ground := Ground.data }], guard := none }) (v := ?_) rfl (by kernel_rfl) (by kernel_rfl) (by kernel_rfl) (fun _ _ _ h => h) (Or.inl ⟨by rfl, ?_⟩) hHeld ?_
            rotate_left
            · intro wz hSw
              have k0' := k0
              have k1' := k1
              have k2' := k2
              go_simp
              all_goals (with_reducible rfl)
            try simp only [Act.put, List.setIfInBounds_toArray, List.set_cons_zero, List.set_cons_succ]
            refine wpAnyH_take (i := 3) (oi := { dst := some 76, op := Op.load 9 (Operand.tmp 75), type := 9, pos := "law.go:146", after := #[{ on := 2, ground := Ground.data }], guard := none }) (v := ?_) rfl (by kernel_rfl) (by kernel_rfl) (by kernel_rfl) (fun _ _ _ h => h) (Or.inl ⟨by rfl, ?_⟩) hHeld ?_
            rotate_left
            · intro wz hSw
              have q1' := e1.out wz hSw
              go_simp
              all_goals (with_reducible rfl)
            try simp only [Act.put, List.setIfInBounds_toArray, List.set_cons_zero, List.set_cons_succ]
            refine wpAnyH_take (i := 4) (oi := { dst := some 77, op := Op.move (Operand.tmp 15), type := 29, pos := "law.go:146", after := #[], guard := none }) (v := ?_) rfl (by kernel_rfl) (by kernel_rfl) (by kernel_rfl) (fun _ _ _ h => h) (Or.inl ⟨by rfl, ?_⟩) hHeld ?_
            rotate_left
            · intro wz hSw
              go_simp
              all_goals (with_reducible rfl)
            try simp only [Act.put, List.setIfInBounds_toArray, List.set_cons_zero, List.set_cons_succ]
            refine wpAnyH_take (i := 5) (oi := { dst := some 78, op := Op.move (Operand.tmp 17), type := 3, pos := "law.go:146", after := #[], guard := none }) (v := ?_) rfl (by kernel_rfl) (by kernel_rfl) (by kernel_rfl) (fun _ _ _ h => h) (Or.inl ⟨by rfl, ?_⟩) hHeld ?_
            rotate_left
            · intro wz hSw
              go_simp
              all_goals (with_reducible rfl)
            try simp only [Act.put, List.setIfInBounds_toArray, List.set_cons_zero, List.set_cons_succ]
            refine wpAnyH_take (i := 6) (oi := { dst := some 79, op := Op.indexAddr 29 (Operand.tmp 77) (Operand.tmp 78), type := 0, pos := "law.go:146", after := #[{ on := 4, ground := Ground.data }, { on := 5, ground := Ground.data }], guard := none }) (v := ?_) rfl (by kernel_rfl) (by kernel_rfl) (by kernel_rfl) (fun _ _ _ h => h) (Or.inl ⟨by rfl, ?_⟩) hHeld ?_
            rotate_left
            · intro wz hSw
              have k0' := k0
              have k1' := k1
              have k2' := k2
              go_simp
              all_goals (with_reducible rfl)
            try simp only [Act.put, List.setIfInBounds_toArray, List.set_cons_zero, List.set_cons_succ]
            refine wpAnyH_take (i := 7) (oi := { dst := some 80, op := Op.load 9 (Operand.tmp 79), type := 9, pos := "law.go:146", after := #[{ on := 6, ground := Ground.data }], guard := none }) (v := ?_) rfl (by kernel_rfl) (by kernel_rfl) (by kernel_rfl) (fun _ _ _ h => h) (Or.inl ⟨by rfl, ?_⟩) hHeld ?_
            rotate_left
            · intro wz hSw
              have q1' := e2.out wz hSw
              go_simp
              all_goals (with_reducible rfl)
            try simp only [Act.put, List.setIfInBounds_toArray, List.set_cons_zero, List.set_cons_succ]
            refine wpAnyH_take (i := 8) (oi := { dst := some 81, op := Op.binOp BinOp.neq 9 (Operand.tmp 76) (Operand.tmp 80) 9, type := 4, pos := "law.go:146", after := #[{ on := 3, ground := Ground.data }, { on := 7, ground := Ground.data }], guard := none }) (v := ?_) rfl (by kernel_rfl) (by kernel_rfl) (by kernel_rfl) (fun _ _ _ h => h) (Or.inl ⟨by rfl, ?_⟩) hHeld ?_
            rotate_left
            · intro wz hSw
              have he' := hse
              go_simp
              all_goals (with_reducible rfl)
            try simp only [Act.put, List.setIfInBounds_toArray, List.set_cons_zero, List.set_cons_succ]
            refine wpAnyH_take (i := 9) (oi := { dst := some 82, op := Op.move (Operand.tmp 81), type := 4, pos := "law.go:146", after := #[{ on := 8, ground := Ground.data }], guard := none }) (v := ?_) rfl (by kernel_rfl) (by kernel_rfl) (by kernel_rfl) (fun _ _ _ h => h) (Or.inl ⟨by rfl, ?_⟩) hHeld ?_
            rotate_left
            · intro wz hSw
              go_simp
              all_goals (with_reducible rfl)
            try simp only [Act.put, List.setIfInBounds_toArray, List.set_cons_zero, List.set_cons_succ]
            refine wpAnyH_take (i := 10) (oi := { dst := some 83, op := Op.move (Operand.tmp 14), type := 26, pos := "law.go:146", after := #[{ on := 9, ground := Ground.guard }], guard := some (9, true) }) (v := undef) rfl (by kernel_rfl) (by kernel_rfl) (by kernel_rfl) (fun _ _ _ h => h) (Or.inr ⟨by rfl, rfl⟩) hHeld ?_
            try simp only [Act.put, List.setIfInBounds_toArray, List.set_cons_zero, List.set_cons_succ]
            refine wpAnyH_take (i := 11) (oi := { dst := some 84, op := Op.move (Operand.tmp 17), type := 3, pos := "law.go:146", after := #[{ on := 9, ground := Ground.guard }], guard := some (9, true) }) (v := undef) rfl (by kernel_rfl) (by kernel_rfl) (by kernel_rfl) (fun _ _ _ h => h) (Or.inr ⟨by rfl, rfl⟩) hHeld ?_
            try simp only [Act.put, List.setIfInBounds_toArray, List.set_cons_zero, List.set_cons_succ]
            refine wpAnyH_take (i := 12) (oi := { dst := some 85, op := Op.indexAddr 26 (Operand.tmp 83) (Operand.tmp 84), type := 0, pos := "law.go:146", after := #[{ on := 10, ground := Ground.data }, { on := 11, ground := Ground.data }, { on := 9, ground := Ground.guard }], guard := some (9, true) }) (v := undef) rfl (by kernel_rfl) (by kernel_rfl) (by kernel_rfl) (fun _ _ _ h => h) (Or.inr ⟨by rfl, rfl⟩) hHeld ?_
            try simp only [Act.put, List.setIfInBounds_toArray, List.set_cons_zero, List.set_cons_succ]
            refine wpAnyH_take (i := 13) (oi := { dst := some 86, op := Op.load 23 (Operand.tmp 85), type := 23, pos := "law.go:146", after := #[{ on := 12, ground := Ground.data }, { on := 9, ground := Ground.guard }], guard := some (9, true) }) (v := undef) rfl (by kernel_rfl) (by kernel_rfl) (by kernel_rfl) (fun _ _ _ h => h) (Or.inr ⟨by rfl, rfl⟩) hHeld ?_
            try simp only [Act.put, List.setIfInBounds_toArray, List.set_cons_zero, List.set_cons_succ]
            refine wpAnyH_take (i := 14) (oi := { dst := some 87, op := Op.move (Operand.tmp 16), type := 26, pos := "law.go:146", after := #[{ on := 9, ground := Ground.guard }], guard := some (9, true) }) (v := undef) rfl (by kernel_rfl) (by kernel_rfl) (by kernel_rfl) (fun _ _ _ h => h) (Or.inr ⟨by rfl, rfl⟩) hHeld ?_
            try simp only [Act.put, List.setIfInBounds_toArray, List.set_cons_zero, List.set_cons_succ]
            refine wpAnyH_take (i := 15) (oi := { dst := some 88, op := Op.move (Operand.tmp 17), type := 3, pos := "law.go:146", after := #[{ on := 9, ground := Ground.guard }], guard := some (9, true) }) (v := undef) rfl (by kernel_rfl) (by kernel_rfl) (by kernel_rfl) (fun _ _ _ h => h) (Or.inr ⟨by rfl, rfl⟩) hHeld ?_
            try simp only [Act.put, List.setIfInBounds_toArray, List.set_cons_zero, List.set_cons_succ]
            refine wpAnyH_take (i := 16) (oi := { dst := some 89, op := Op.indexAddr 26 (Operand.tmp 87) (Operand.tmp 88), type := 0, pos := "law.go:146", after := #[{ on := 14, ground := Ground.data }, { on := 15, ground := Ground.data }, { on := 9, ground := Ground.guard }], guard := some (9, true) }) (v := undef) rfl (by kernel_rfl) (by kernel_rfl) (by kernel_rfl) (fun _ _ _ h => h) (Or.inr ⟨by rfl, rfl⟩) hHeld ?_
            try simp only [Act.put, List.setIfInBounds_toArray, List.set_cons_zero, List.set_cons_succ]
            refine wpAnyH_take (i := 17) (oi := { dst := some 90, op := Op.load 23 (Operand.tmp 89), type := 23, pos := "law.go:146", after := #[{ on := 16, ground := Ground.data }, { on := 9, ground := Ground.guard }], guard := some (9, true) }) (v := undef) rfl (by kernel_rfl) (by kernel_rfl) (by kernel_rfl) (fun _ _ _ h => h) (Or.inr ⟨by rfl, rfl⟩) hHeld ?_
            try simp only [Act.put, List.setIfInBounds_toArray, List.set_cons_zero, List.set_cons_succ]
            refine wpAnyH_take (i := 18) (oi := { dst := some 91, op := Op.binOp BinOp.eql 23 (Operand.tmp 86) (Operand.tmp 90) 23, type := 4, pos := "law.go:146", after := #[{ on := 13, ground := Ground.data }, { on := 17, ground := Ground.data }, { on := 9, ground := Ground.guard }], guard := some (9, true) }) (v := undef) rfl (by kernel_rfl) (by kernel_rfl) (by kernel_rfl) (fun _ _ _ h => h) (Or.inr ⟨by rfl, rfl⟩) hHeld ?_
            try simp only [Act.put, List.setIfInBounds_toArray, List.set_cons_zero, List.set_cons_succ]
            refine wpAnyH_take (i := 19) (oi := { dst := some 92, op := Op.pick (Operand.tmp 82) (Operand.tmp 91) (Operand.const (Value.bool false)), type := 4, pos := "law.go:146", after := #[{ on := 9, ground := Ground.data }, { on := 18, ground := Ground.data }], guard := none }) (v := ?_) rfl (by kernel_rfl) (by kernel_rfl) (by kernel_rfl) (fun _ _ _ h => h) (Or.inl ⟨by rfl, ?_⟩) hHeld ?_
            rotate_left
            · intro wz hSw
              go_simp
              all_goals (with_reducible rfl)
            try simp only [Act.put, List.setIfInBounds_toArray, List.set_cons_zero, List.set_cons_succ]
            refine wpAnyH_done (by kernel_rfl) ?_ _
            have hbn := Lib.hid (hbr.out.trans (hHeld.mono hbr.out.size))
            clear hHeld heq
            go_wp2_with fail
            go_roundw
            case rel => exact ⟨k + 1, by omega, by go_num, hbn⟩
            case measure => simp [intOf]; omega
          · have hse : (ta.toList == tc.toList) = false := by rw [← beq_toListBytes]; exact str_ne hs
            cases G with
            | true =>
              refine wp_region_held_drew (S := fun wz => Below wr.heap.size wr wz) (by kernel_rfl) ((Below.refl _ wr).drew) (fun hHeld => ?_)
              generalize hWd : wr.drew = Wd at *
              clear hWd
              refine wpAnyH_take (i := 0) (oi := { dst := some 73, op := Op.move (Operand.tmp 13), type := 29, pos := "law.go:146", after := #[], guard := none }) (v := ?_) rfl (by kernel_rfl) (by kernel_rfl) (by kernel_rfl) (fun _ _ _ h => h) (Or.inl ⟨by rfl, ?_⟩) hHeld ?_
              rotate_left
              · intro wz hSw
                go_simp
                all_goals (with_reducible rfl)
              try simp only [Act.put, List.setIfInBounds_toArray, List.set_cons_zero, List.set_cons_succ]
              refine wpAnyH_take (i := 1) (oi := { dst := some 74, op := Op.move (Operand.tmp 17), type := 3, pos := "law.go:146", after := #[], guard := none }) (v := ?_) rfl (by kernel_rfl) (by kernel_rfl) (by kernel_rfl) (fun _ _ _ h => h) (Or.inl ⟨by rfl, ?_⟩) hHeld ?_
              rotate_left
              · intro wz hSw
                go_simp
                all_goals (with_reducible rfl)
              try simp only [Act.put, List.setIfInBounds_toArray, List.set_cons_zero, List.set_cons_succ]
              refine wpAnyH_take (i := 2) (oi := { dst := some 75, op := Op.indexAddr 29 (Operand.tmp 73) (Operand.tmp 74), type := 0, pos := "law.go:146", after := #[{ on := 0, ground := Ground.data }, { on := 1, ground := Ground.data }], guard := none }) (v := ?_) rfl (by kernel_rfl) (by kernel_rfl) (by kernel_rfl) (fun _ _ _ h => h) (Or.inl ⟨by rfl, ?_⟩) hHeld ?_
              rotate_left
              · intro wz hSw
                have k0' := k0
                have k1' := k1
                have k2' := k2
                go_simp
                all_goals (with_reducible rfl)
              try simp only [Act.put, List.setIfInBounds_toArray, List.set_cons_zero, List.set_cons_succ]
              refine wpAnyH_take (i := 3) (oi := { dst := some 76, op := Op.load 9 (Operand.tmp 75), type := 9, pos := "law.go:146", after := #[{ on := 2, ground := Ground.data }], guard := none }) (v := ?_) rfl (by kernel_rfl) (by kernel_rfl) (by kernel_rfl) (fun _ _ _ h => h) (Or.inl ⟨by rfl, ?_⟩) hHeld ?_
              rotate_left
              · intro wz hSw
                have q1' := e1.out wz hSw
                go_simp
                all_goals (with_reducible rfl)
              try simp only [Act.put, List.setIfInBounds_toArray, List.set_cons_zero, List.set_cons_succ]
              refine wpAnyH_take (i := 4) (oi := { dst := some 77, op := Op.move (Operand.tmp 15), type := 29, pos := "law.go:146", after := #[], guard := none }) (v := ?_) rfl (by kernel_rfl) (by kernel_rfl) (by kernel_rfl) (fun _ _ _ h => h) (Or.inl ⟨by rfl, ?_⟩) hHeld ?_
              rotate_left
              · intro wz hSw
                go_simp
                all_goals (with_reducible rfl)
              try simp only [Act.put, List.setIfInBounds_toArray, List.set_cons_zero, List.set_cons_succ]
              refine wpAnyH_take (i := 5) (oi := { dst := some 78, op := Op.move (Operand.tmp 17), type := 3, pos := "law.go:146", after := #[], guard := none }) (v := ?_) rfl (by kernel_rfl) (by kernel_rfl) (by kernel_rfl) (fun _ _ _ h => h) (Or.inl ⟨by rfl, ?_⟩) hHeld ?_
              rotate_left
              · intro wz hSw
                go_simp
                all_goals (with_reducible rfl)
              try simp only [Act.put, List.setIfInBounds_toArray, List.set_cons_zero, List.set_cons_succ]
              refine wpAnyH_take (i := 6) (oi := { dst := some 79, op := Op.indexAddr 29 (Operand.tmp 77) (Operand.tmp 78), type := 0, pos := "law.go:146", after := #[{ on := 4, ground := Ground.data }, { on := 5, ground := Ground.data }], guard := none }) (v := ?_) rfl (by kernel_rfl) (by kernel_rfl) (by kernel_rfl) (fun _ _ _ h => h) (Or.inl ⟨by rfl, ?_⟩) hHeld ?_
              rotate_left
              · intro wz hSw
                have k0' := k0
                have k1' := k1
                have k2' := k2
                go_simp
                all_goals (with_reducible rfl)
              try simp only [Act.put, List.setIfInBounds_toArray, List.set_cons_zero, List.set_cons_succ]
              refine wpAnyH_take (i := 7) (oi := { dst := some 80, op := Op.load 9 (Operand.tmp 79), type := 9, pos := "law.go:146", after := #[{ on := 6, ground := Ground.data }], guard := none }) (v := ?_) rfl (by kernel_rfl) (by kernel_rfl) (by kernel_rfl) (fun _ _ _ h => h) (Or.inl ⟨by rfl, ?_⟩) hHeld ?_
              rotate_left
              · intro wz hSw
                have q1' := e2.out wz hSw
                go_simp
                all_goals (with_reducible rfl)
              try simp only [Act.put, List.setIfInBounds_toArray, List.set_cons_zero, List.set_cons_succ]
              refine wpAnyH_take (i := 8) (oi := { dst := some 81, op := Op.binOp BinOp.neq 9 (Operand.tmp 76) (Operand.tmp 80) 9, type := 4, pos := "law.go:146", after := #[{ on := 3, ground := Ground.data }, { on := 7, ground := Ground.data }], guard := none }) (v := ?_) rfl (by kernel_rfl) (by kernel_rfl) (by kernel_rfl) (fun _ _ _ h => h) (Or.inl ⟨by rfl, ?_⟩) hHeld ?_
              rotate_left
              · intro wz hSw
                have he' := hse
                go_simp
                all_goals (with_reducible rfl)
              try simp only [Act.put, List.setIfInBounds_toArray, List.set_cons_zero, List.set_cons_succ]
              refine wpAnyH_take (i := 9) (oi := { dst := some 82, op := Op.move (Operand.tmp 81), type := 4, pos := "law.go:146", after := #[{ on := 8, ground := Ground.data }], guard := none }) (v := ?_) rfl (by kernel_rfl) (by kernel_rfl) (by kernel_rfl) (fun _ _ _ h => h) (Or.inl ⟨by rfl, ?_⟩) hHeld ?_
              rotate_left
              · intro wz hSw
                go_simp
                all_goals (with_reducible rfl)
              try simp only [Act.put, List.setIfInBounds_toArray, List.set_cons_zero, List.set_cons_succ]
              refine wpAnyH_take (i := 10) (oi := { dst := some 83, op := Op.move (Operand.tmp 14), type := 26, pos := "law.go:146", after := #[{ on := 9, ground := Ground.guard }], guard := some (9, true) }) (v := ?_) rfl (by kernel_rfl) (by kernel_rfl) (by kernel_rfl) (fun _ _ _ h => h) (Or.inl ⟨by rfl, ?_⟩) hHeld ?_
              rotate_left
              · intro wz hSw
                go_simp
                all_goals (with_reducible rfl)
              try simp only [Act.put, List.setIfInBounds_toArray, List.set_cons_zero, List.set_cons_succ]
              refine wpAnyH_take (i := 11) (oi := { dst := some 84, op := Op.move (Operand.tmp 17), type := 3, pos := "law.go:146", after := #[{ on := 9, ground := Ground.guard }], guard := some (9, true) }) (v := ?_) rfl (by kernel_rfl) (by kernel_rfl) (by kernel_rfl) (fun _ _ _ h => h) (Or.inl ⟨by rfl, ?_⟩) hHeld ?_
              rotate_left
              · intro wz hSw
                go_simp
                all_goals (with_reducible rfl)
              try simp only [Act.put, List.setIfInBounds_toArray, List.set_cons_zero, List.set_cons_succ]
              refine wpAnyH_take (i := 12) (oi := { dst := some 85, op := Op.indexAddr 26 (Operand.tmp 83) (Operand.tmp 84), type := 0, pos := "law.go:146", after := #[{ on := 10, ground := Ground.data }, { on := 11, ground := Ground.data }, { on := 9, ground := Ground.guard }], guard := some (9, true) }) (v := ?_) rfl (by kernel_rfl) (by kernel_rfl) (by kernel_rfl) (fun _ _ _ h => h) (Or.inl ⟨by rfl, ?_⟩) hHeld ?_
              rotate_left
              · intro wz hSw
                have k0' := k0
                have k1' := k1
                have k2' := k2
                go_simp
                all_goals (with_reducible rfl)
              try simp only [Act.put, List.setIfInBounds_toArray, List.set_cons_zero, List.set_cons_succ]
              refine wpAnyH_take (i := 13) (oi := { dst := some 86, op := Op.load 23 (Operand.tmp 85), type := 23, pos := "law.go:146", after := #[{ on := 12, ground := Ground.data }, { on := 9, ground := Ground.guard }], guard := some (9, true) }) rfl (by kernel_rfl) (by kernel_rfl) (by kernel_rfl) (fun _ _ _ h => h) (yieldsIf_load_mid (by rfl) _ _ rfl gp (k * 32) rfl (ra) _ (fun wz h => e3.out wz h) Tryd.underlying23 rfl (i1.out)) hHeld ?_
              try simp only [Act.put, List.setIfInBounds_toArray, List.set_cons_zero, List.set_cons_succ]
              refine wpAnyH_take (i := 14) (oi := { dst := some 87, op := Op.move (Operand.tmp 16), type := 26, pos := "law.go:146", after := #[{ on := 9, ground := Ground.guard }], guard := some (9, true) }) (v := ?_) rfl (by kernel_rfl) (by kernel_rfl) (by kernel_rfl) (fun _ _ _ h => h) (Or.inl ⟨by rfl, ?_⟩) hHeld ?_
              rotate_left
              · intro wz hSw
                go_simp
                all_goals (with_reducible rfl)
              try simp only [Act.put, List.setIfInBounds_toArray, List.set_cons_zero, List.set_cons_succ]
              refine wpAnyH_take (i := 15) (oi := { dst := some 88, op := Op.move (Operand.tmp 17), type := 3, pos := "law.go:146", after := #[{ on := 9, ground := Ground.guard }], guard := some (9, true) }) (v := ?_) rfl (by kernel_rfl) (by kernel_rfl) (by kernel_rfl) (fun _ _ _ h => h) (Or.inl ⟨by rfl, ?_⟩) hHeld ?_
              rotate_left
              · intro wz hSw
                go_simp
                all_goals (with_reducible rfl)
              try simp only [Act.put, List.setIfInBounds_toArray, List.set_cons_zero, List.set_cons_succ]
              refine wpAnyH_take (i := 16) (oi := { dst := some 89, op := Op.indexAddr 26 (Operand.tmp 87) (Operand.tmp 88), type := 0, pos := "law.go:146", after := #[{ on := 14, ground := Ground.data }, { on := 15, ground := Ground.data }, { on := 9, ground := Ground.guard }], guard := some (9, true) }) (v := ?_) rfl (by kernel_rfl) (by kernel_rfl) (by kernel_rfl) (fun _ _ _ h => h) (Or.inl ⟨by rfl, ?_⟩) hHeld ?_
              rotate_left
              · intro wz hSw
                have k0' := k0
                have k1' := k1
                have k2' := k2
                go_simp
                all_goals (with_reducible rfl)
              try simp only [Act.put, List.setIfInBounds_toArray, List.set_cons_zero, List.set_cons_succ]
              refine wpAnyH_take (i := 17) (oi := { dst := some 90, op := Op.load 23 (Operand.tmp 89), type := 23, pos := "law.go:146", after := #[{ on := 16, ground := Ground.data }, { on := 9, ground := Ground.guard }], guard := some (9, true) }) rfl (by kernel_rfl) (by kernel_rfl) (by kernel_rfl) (fun _ _ _ h => h) (yieldsIf_load_mid (by rfl) _ _ rfl gq (k * 32) rfl (rc) _ (fun wz h => e4.out wz h) Tryd.underlying23 rfl (i2.out)) hHeld ?_
              try simp only [Act.put, List.setIfInBounds_toArray, List.set_cons_zero, List.set_cons_succ]
              refine wpAnyH_take (i := 18) (oi := { dst := some 91, op := Op.binOp BinOp.eql 23 (Operand.tmp 86) (Operand.tmp 90) 23, type := 4, pos := "law.go:146", after := #[{ on := 13, ground := Ground.data }, { on := 17, ground := Ground.data }, { on := 9, ground := Ground.guard }], guard := some (9, true) }) (v := ?_) rfl (by kernel_rfl) (by kernel_rfl) (by kernel_rfl) (fun _ _ _ h => h) (Or.inl ⟨by rfl, ?_⟩) hHeld ?_
              rotate_left
              · intro wz hSw
                have hq' := heq
                go_simp
                all_goals (with_reducible rfl)
              try simp only [Act.put, List.setIfInBounds_toArray, List.set_cons_zero, List.set_cons_succ]
              refine wpAnyH_take (i := 19) (oi := { dst := some 92, op := Op.pick (Operand.tmp 82) (Operand.tmp 91) (Operand.const (Value.bool false)), type := 4, pos := "law.go:146", after := #[{ on := 9, ground := Ground.data }, { on := 18, ground := Ground.data }], guard := none }) (v := ?_) rfl (by kernel_rfl) (by kernel_rfl) (by kernel_rfl) (fun _ _ _ h => h) (Or.inl ⟨by rfl, ?_⟩) hHeld ?_
              rotate_left
              · intro wz hSw
                go_simp
                all_goals (with_reducible rfl)
              try simp only [Act.put, List.setIfInBounds_toArray, List.set_cons_zero, List.set_cons_succ]
              refine wpAnyH_done (by kernel_rfl) ?_ _
              have hend := Lib.hid (hfin.out _ (hb5.out.trans ((hbr.out.trans (hHeld.mono hbr.out.size)).mono hb5.out.size)))
              clear hHeld heq
              go_wp2_with fail
              exact hend.out
            | false =>
              have hki : k ≠ i0 := fun e => by have := hGd.out.2 (hstop.out e).2; cases this
              refine wp_region_held_drew (S := fun wz => Below wr.heap.size wr wz) (by kernel_rfl) ((Below.refl _ wr).drew) (fun hHeld => ?_)
              generalize hWd : wr.drew = Wd at *
              clear hWd
              refine wpAnyH_take (i := 0) (oi := { dst := some 73, op := Op.move (Operand.tmp 13), type := 29, pos := "law.go:146", after := #[], guard := none }) (v := ?_) rfl (by kernel_rfl) (by kernel_rfl) (by kernel_rfl) (fun _ _ _ h => h) (Or.inl ⟨by rfl, ?_⟩) hHeld ?_
              rotate_left
              · intro wz hSw
                go_simp
                all_goals (with_reducible rfl)
              try simp only [Act.put, List.setIfInBounds_toArray, List.set_cons_zero, List.set_cons_succ]
              refine wpAnyH_take (i := 1) (oi := { dst := some 74, op := Op.move (Operand.tmp 17), type := 3, pos := "law.go:146", after := #[], guard := none }) (v := ?_) rfl (by kernel_rfl) (by kernel_rfl) (by kernel_rfl) (fun _ _ _ h => h) (Or.inl ⟨by rfl, ?_⟩) hHeld ?_
              rotate_left
              · intro wz hSw
                go_simp
                all_goals (with_reducible rfl)
              try simp only [Act.put, List.setIfInBounds_toArray, List.set_cons_zero, List.set_cons_succ]
              refine wpAnyH_take (i := 2) (oi := { dst := some 75, op := Op.indexAddr 29 (Operand.tmp 73) (Operand.tmp 74), type := 0, pos := "law.go:146", after := #[{ on := 0, ground := Ground.data }, { on := 1, ground := Ground.data }], guard := none }) (v := ?_) rfl (by kernel_rfl) (by kernel_rfl) (by kernel_rfl) (fun _ _ _ h => h) (Or.inl ⟨by rfl, ?_⟩) hHeld ?_
              rotate_left
              · intro wz hSw
                have k0' := k0
                have k1' := k1
                have k2' := k2
                go_simp
                all_goals (with_reducible rfl)
              try simp only [Act.put, List.setIfInBounds_toArray, List.set_cons_zero, List.set_cons_succ]
              refine wpAnyH_take (i := 3) (oi := { dst := some 76, op := Op.load 9 (Operand.tmp 75), type := 9, pos := "law.go:146", after := #[{ on := 2, ground := Ground.data }], guard := none }) (v := ?_) rfl (by kernel_rfl) (by kernel_rfl) (by kernel_rfl) (fun _ _ _ h => h) (Or.inl ⟨by rfl, ?_⟩) hHeld ?_
              rotate_left
              · intro wz hSw
                have q1' := e1.out wz hSw
                go_simp
                all_goals (with_reducible rfl)
              try simp only [Act.put, List.setIfInBounds_toArray, List.set_cons_zero, List.set_cons_succ]
              refine wpAnyH_take (i := 4) (oi := { dst := some 77, op := Op.move (Operand.tmp 15), type := 29, pos := "law.go:146", after := #[], guard := none }) (v := ?_) rfl (by kernel_rfl) (by kernel_rfl) (by kernel_rfl) (fun _ _ _ h => h) (Or.inl ⟨by rfl, ?_⟩) hHeld ?_
              rotate_left
              · intro wz hSw
                go_simp
                all_goals (with_reducible rfl)
              try simp only [Act.put, List.setIfInBounds_toArray, List.set_cons_zero, List.set_cons_succ]
              refine wpAnyH_take (i := 5) (oi := { dst := some 78, op := Op.move (Operand.tmp 17), type := 3, pos := "law.go:146", after := #[], guard := none }) (v := ?_) rfl (by kernel_rfl) (by kernel_rfl) (by kernel_rfl) (fun _ _ _ h => h) (Or.inl ⟨by rfl, ?_⟩) hHeld ?_
              rotate_left
              · intro wz hSw
                go_simp
                all_goals (with_reducible rfl)
              try simp only [Act.put, List.setIfInBounds_toArray, List.set_cons_zero, List.set_cons_succ]
              refine wpAnyH_take (i := 6) (oi := { dst := some 79, op := Op.indexAddr 29 (Operand.tmp 77) (Operand.tmp 78), type := 0, pos := "law.go:146", after := #[{ on := 4, ground := Ground.data }, { on := 5, ground := Ground.data }], guard := none }) (v := ?_) rfl (by kernel_rfl) (by kernel_rfl) (by kernel_rfl) (fun _ _ _ h => h) (Or.inl ⟨by rfl, ?_⟩) hHeld ?_
              rotate_left
              · intro wz hSw
                have k0' := k0
                have k1' := k1
                have k2' := k2
                go_simp
                all_goals (with_reducible rfl)
              try simp only [Act.put, List.setIfInBounds_toArray, List.set_cons_zero, List.set_cons_succ]
              refine wpAnyH_take (i := 7) (oi := { dst := some 80, op := Op.load 9 (Operand.tmp 79), type := 9, pos := "law.go:146", after := #[{ on := 6, ground := Ground.data }], guard := none }) (v := ?_) rfl (by kernel_rfl) (by kernel_rfl) (by kernel_rfl) (fun _ _ _ h => h) (Or.inl ⟨by rfl, ?_⟩) hHeld ?_
              rotate_left
              · intro wz hSw
                have q1' := e2.out wz hSw
                go_simp
                all_goals (with_reducible rfl)
              try simp only [Act.put, List.setIfInBounds_toArray, List.set_cons_zero, List.set_cons_succ]
              refine wpAnyH_take (i := 8) (oi := { dst := some 81, op := Op.binOp BinOp.neq 9 (Operand.tmp 76) (Operand.tmp 80) 9, type := 4, pos := "law.go:146", after := #[{ on := 3, ground := Ground.data }, { on := 7, ground := Ground.data }], guard := none }) (v := ?_) rfl (by kernel_rfl) (by kernel_rfl) (by kernel_rfl) (fun _ _ _ h => h) (Or.inl ⟨by rfl, ?_⟩) hHeld ?_
              rotate_left
              · intro wz hSw
                have he' := hse
                go_simp
                all_goals (with_reducible rfl)
              try simp only [Act.put, List.setIfInBounds_toArray, List.set_cons_zero, List.set_cons_succ]
              refine wpAnyH_take (i := 9) (oi := { dst := some 82, op := Op.move (Operand.tmp 81), type := 4, pos := "law.go:146", after := #[{ on := 8, ground := Ground.data }], guard := none }) (v := ?_) rfl (by kernel_rfl) (by kernel_rfl) (by kernel_rfl) (fun _ _ _ h => h) (Or.inl ⟨by rfl, ?_⟩) hHeld ?_
              rotate_left
              · intro wz hSw
                go_simp
                all_goals (with_reducible rfl)
              try simp only [Act.put, List.setIfInBounds_toArray, List.set_cons_zero, List.set_cons_succ]
              refine wpAnyH_take (i := 10) (oi := { dst := some 83, op := Op.move (Operand.tmp 14), type := 26, pos := "law.go:146", after := #[{ on := 9, ground := Ground.guard }], guard := some (9, true) }) (v := ?_) rfl (by kernel_rfl) (by kernel_rfl) (by kernel_rfl) (fun _ _ _ h => h) (Or.inl ⟨by rfl, ?_⟩) hHeld ?_
              rotate_left
              · intro wz hSw
                go_simp
                all_goals (with_reducible rfl)
              try simp only [Act.put, List.setIfInBounds_toArray, List.set_cons_zero, List.set_cons_succ]
              refine wpAnyH_take (i := 11) (oi := { dst := some 84, op := Op.move (Operand.tmp 17), type := 3, pos := "law.go:146", after := #[{ on := 9, ground := Ground.guard }], guard := some (9, true) }) (v := ?_) rfl (by kernel_rfl) (by kernel_rfl) (by kernel_rfl) (fun _ _ _ h => h) (Or.inl ⟨by rfl, ?_⟩) hHeld ?_
              rotate_left
              · intro wz hSw
                go_simp
                all_goals (with_reducible rfl)
              try simp only [Act.put, List.setIfInBounds_toArray, List.set_cons_zero, List.set_cons_succ]
              refine wpAnyH_take (i := 12) (oi := { dst := some 85, op := Op.indexAddr 26 (Operand.tmp 83) (Operand.tmp 84), type := 0, pos := "law.go:146", after := #[{ on := 10, ground := Ground.data }, { on := 11, ground := Ground.data }, { on := 9, ground := Ground.guard }], guard := some (9, true) }) (v := ?_) rfl (by kernel_rfl) (by kernel_rfl) (by kernel_rfl) (fun _ _ _ h => h) (Or.inl ⟨by rfl, ?_⟩) hHeld ?_
              rotate_left
              · intro wz hSw
                have k0' := k0
                have k1' := k1
                have k2' := k2
                go_simp
                all_goals (with_reducible rfl)
              try simp only [Act.put, List.setIfInBounds_toArray, List.set_cons_zero, List.set_cons_succ]
              refine wpAnyH_take (i := 13) (oi := { dst := some 86, op := Op.load 23 (Operand.tmp 85), type := 23, pos := "law.go:146", after := #[{ on := 12, ground := Ground.data }, { on := 9, ground := Ground.guard }], guard := some (9, true) }) rfl (by kernel_rfl) (by kernel_rfl) (by kernel_rfl) (fun _ _ _ h => h) (yieldsIf_load_mid (by rfl) _ _ rfl gp (k * 32) rfl (ra) _ (fun wz h => e3.out wz h) Tryd.underlying23 rfl (i1.out)) hHeld ?_
              try simp only [Act.put, List.setIfInBounds_toArray, List.set_cons_zero, List.set_cons_succ]
              refine wpAnyH_take (i := 14) (oi := { dst := some 87, op := Op.move (Operand.tmp 16), type := 26, pos := "law.go:146", after := #[{ on := 9, ground := Ground.guard }], guard := some (9, true) }) (v := ?_) rfl (by kernel_rfl) (by kernel_rfl) (by kernel_rfl) (fun _ _ _ h => h) (Or.inl ⟨by rfl, ?_⟩) hHeld ?_
              rotate_left
              · intro wz hSw
                go_simp
                all_goals (with_reducible rfl)
              try simp only [Act.put, List.setIfInBounds_toArray, List.set_cons_zero, List.set_cons_succ]
              refine wpAnyH_take (i := 15) (oi := { dst := some 88, op := Op.move (Operand.tmp 17), type := 3, pos := "law.go:146", after := #[{ on := 9, ground := Ground.guard }], guard := some (9, true) }) (v := ?_) rfl (by kernel_rfl) (by kernel_rfl) (by kernel_rfl) (fun _ _ _ h => h) (Or.inl ⟨by rfl, ?_⟩) hHeld ?_
              rotate_left
              · intro wz hSw
                go_simp
                all_goals (with_reducible rfl)
              try simp only [Act.put, List.setIfInBounds_toArray, List.set_cons_zero, List.set_cons_succ]
              refine wpAnyH_take (i := 16) (oi := { dst := some 89, op := Op.indexAddr 26 (Operand.tmp 87) (Operand.tmp 88), type := 0, pos := "law.go:146", after := #[{ on := 14, ground := Ground.data }, { on := 15, ground := Ground.data }, { on := 9, ground := Ground.guard }], guard := some (9, true) }) (v := ?_) rfl (by kernel_rfl) (by kernel_rfl) (by kernel_rfl) (fun _ _ _ h => h) (Or.inl ⟨by rfl, ?_⟩) hHeld ?_
              rotate_left
              · intro wz hSw
                have k0' := k0
                have k1' := k1
                have k2' := k2
                go_simp
                all_goals (with_reducible rfl)
              try simp only [Act.put, List.setIfInBounds_toArray, List.set_cons_zero, List.set_cons_succ]
              refine wpAnyH_take (i := 17) (oi := { dst := some 90, op := Op.load 23 (Operand.tmp 89), type := 23, pos := "law.go:146", after := #[{ on := 16, ground := Ground.data }, { on := 9, ground := Ground.guard }], guard := some (9, true) }) rfl (by kernel_rfl) (by kernel_rfl) (by kernel_rfl) (fun _ _ _ h => h) (yieldsIf_load_mid (by rfl) _ _ rfl gq (k * 32) rfl (rc) _ (fun wz h => e4.out wz h) Tryd.underlying23 rfl (i2.out)) hHeld ?_
              try simp only [Act.put, List.setIfInBounds_toArray, List.set_cons_zero, List.set_cons_succ]
              refine wpAnyH_take (i := 18) (oi := { dst := some 91, op := Op.binOp BinOp.eql 23 (Operand.tmp 86) (Operand.tmp 90) 23, type := 4, pos := "law.go:146", after := #[{ on := 13, ground := Ground.data }, { on := 17, ground := Ground.data }, { on := 9, ground := Ground.guard }], guard := some (9, true) }) (v := ?_) rfl (by kernel_rfl) (by kernel_rfl) (by kernel_rfl) (fun _ _ _ h => h) (Or.inl ⟨by rfl, ?_⟩) hHeld ?_
              rotate_left
              · intro wz hSw
                have hq' := heq
                go_simp
                all_goals (with_reducible rfl)
              try simp only [Act.put, List.setIfInBounds_toArray, List.set_cons_zero, List.set_cons_succ]
              refine wpAnyH_take (i := 19) (oi := { dst := some 92, op := Op.pick (Operand.tmp 82) (Operand.tmp 91) (Operand.const (Value.bool false)), type := 4, pos := "law.go:146", after := #[{ on := 9, ground := Ground.data }, { on := 18, ground := Ground.data }], guard := none }) (v := ?_) rfl (by kernel_rfl) (by kernel_rfl) (by kernel_rfl) (fun _ _ _ h => h) (Or.inl ⟨by rfl, ?_⟩) hHeld ?_
              rotate_left
              · intro wz hSw
                go_simp
                all_goals (with_reducible rfl)
              try simp only [Act.put, List.setIfInBounds_toArray, List.set_cons_zero, List.set_cons_succ]
              refine wpAnyH_done (by kernel_rfl) ?_ _
              have hbn := Lib.hid (hbr.out.trans (hHeld.mono hbr.out.size))
              clear hHeld heq
              go_wp2_with fail
              go_roundw
              case rel => exact ⟨k + 1, by omega, by go_num, hbn⟩
              case measure => simp [intOf]; omega
end Go.Proofs.YthnfjkgiaanmhaaDoor
namespace Go.Proofs.YthnfjkgiaanmhaaDoor.lawOnce
open Go.ChangeShapes Go.WideShapes Go.ChangeAt Go.RowKit Go.Mem
open Go.Proofs.YthnfjkgiaanmhaaDoor

theorem okWide_arr {P : Program} {w : World} {base n : Nat} {t e : TypeId} {v : Value} (ht : P.underlying t = some (.array n e)) (h : Value.okWide P w .any base t v) : ∃ cs, v = .agg cs ∧ cs.size = P.cellsOf t := by
  simp only [Value.okWide, ht] at h
  obtain ⟨cs, h1, h2, _⟩ := h
  exact ⟨cs, h1, h2⟩

set_option maxRecDepth 100000 in
theorem lifted (os : Os) (started : os.Started) (H : Type) (enc : TypeId × Value → H) :
    ReturnsInHanded {} Tryd.checked os 3 .any (fun w args => (Rows.directoryOnceSpec.pre enc Tryd.prog Tryd.f3 [] false w args ∧ laidMetH Tryd.prog laid2 w) ∧ sizedMet enc Tryd.prog Tryd.f3 (OpenSpec.ofChange Rows.directoryOnceSpec) false w args)
      (Rows.directoryOnceSpec.post enc Tryd.prog Tryd.f3 false true false false) := by
  refine returnsInHanded_of_change_and (C := Tryd.checked) (X := fun w _ => laidMetH Tryd.prog laid2 w) (fun _ _ _ hh h => h.of_heap hh) own started (by kernel_rfl) Tryd.func3
    (ChangeSpec.witness_shaped (enc := enc) (C := Tryd.checked) (os := os) (X := fun w _ => laidMetH Tryd.prog laid2 w) false (World.doorLaid Tryd.prog 400 os) #[.agg (bv Go.Dr.zd).toArray, .agg (gC Go.Dr.zeroL).toArray, .agg (gC Go.Dr.zeroL).toArray, .bool false, .bool false, .slice none 0 0] 8 rfl (World.shaped_of_RefB (by kernel_rfl) (by kernel_rfl)) (by kernel_rfl) (by kernel_rfl) (by kernel_rfl) (door_met os _)) ?_
  intro W base args ds gs before hval0 hW _ hwt hL _
  have hval : ∀ (j : Nat) t v, Tryd.f3.params[j]? = some t → args[j]? = some v → Value.okWide Tryd.prog W .any base t v := hval0
  have hW' := hW
  obtain ⟨p, q, hA0, hV, rfl, hfz, hnd⟩ := hW
  have hA : DataW.TrodAll enc Tryd.prog W 0 (fun _ => true) true Tryd.f3.params.toList args.toList ds p := hA0
  rw [Tryd.params3] at hA hval
  obtain ⟨v0, vs0, d0, ds0, p0, q0, hargs, rfl, rfl, h0, r0⟩ := trodAll_cons hA
  obtain ⟨v1, vs1, d1, ds1, p1, q1, rfl, rfl, rfl, h1, r1⟩ := trodAll_cons r0
  obtain ⟨v2, vs2, d2, ds2, p2, q2, rfl, rfl, rfl, h2, r2⟩ := trodAll_cons r1
  obtain ⟨v3, vs3, d3, ds3, p3, q3, rfl, rfl, rfl, h3, r3⟩ := trodAll_cons r2
  obtain ⟨v4, vs4, d4, ds4, p4, q4, rfl, rfl, rfl, h4, r4⟩ := trodAll_cons r3
  obtain ⟨v5, vs5, d5, ds5, p5, q5, rfl, rfl, rfl, h5, r5⟩ := trodAll_cons r4
  obtain ⟨rfl, rfl, rfl⟩ := trodAll_nil r5
  obtain rfl : args = #[v0, v1, v2, v3, v4, v5] := by cases args; simp_all
  obtain ⟨rfl, rfl⟩ := trodVars_none hV
  have lt0 : ∀ x ∈ p0, x.block < W.heap.size := by obtain ⟨m, hm⟩ := h0; exact DataW.trod_lt m _ _ _ hm
  have lt1 : ∀ x ∈ p1, x.block < W.heap.size := by obtain ⟨m, hm⟩ := h1; exact DataW.trod_lt m _ _ _ hm
  have lt2 : ∀ x ∈ p2, x.block < W.heap.size := by obtain ⟨m, hm⟩ := h2; exact DataW.trod_lt m _ _ _ hm
  have lt3 : ∀ x ∈ p3, x.block < W.heap.size := by obtain ⟨m, hm⟩ := h3; exact DataW.trod_lt m _ _ _ hm
  have lt4 : ∀ x ∈ p4, x.block < W.heap.size := by obtain ⟨m, hm⟩ := h4; exact DataW.trod_lt m _ _ _ hm
  have lt5 : ∀ x ∈ p5, x.block < W.heap.size := by obtain ⟨m, hm⟩ := h5; exact DataW.trod_lt m _ _ _ hm
  have k0' := h0
  have k1' := h1
  have k2' := h2
  have k3' := h3
  have k4' := h4
  have k5' := h5
  obtain ⟨cs0, rfl, _⟩ := okWide_arr Tryd.underlying23 (hval 0 23 v0 rfl rfl)
  obtain ⟨m0, hm0⟩ := h0
  obtain ⟨d0, e0, k0, k0b⟩ := open_digest (cs := cs0.toList) (by simpa [Value.cells] using hm0)
  obtain rfl : cs0 = (bv d0).toArray := by rw [← e0]
  clear hm0 e0
  obtain ⟨cs1, rfl, _⟩ := okWide_struct Tryd.underlying25 (hval 1 25 v1 rfl rfl)
  obtain ⟨m1, hm1⟩ := h1
  obtain ⟨y1, ok1, e1⟩ := open_ls (cs := cs1.toList) (by simpa [Value.cells] using hm1)
  obtain rfl : cs1 = (gC y1).toArray := by rw [← e1]
  clear hm1 e1
  obtain ⟨cs2, rfl, _⟩ := okWide_struct Tryd.underlying25 (hval 2 25 v2 rfl rfl)
  obtain ⟨m2, hm2⟩ := h2
  obtain ⟨y2, ok2, e2⟩ := open_ls (cs := cs2.toList) (by simpa [Value.cells] using hm2)
  obtain rfl : cs2 = (gC y2).toArray := by rw [← e2]
  clear hm2 e2
  obtain ⟨b3, rfl⟩ := okWide_bool Tryd.underlying4 (hval 3 4 v3 rfl rfl)
  obtain ⟨b4, rfl⟩ := okWide_bool Tryd.underlying4 (hval 4 4 v4 rfl rfl)
  obtain ⟨a5, n5, c5, rfl⟩ := okWide_slice Tryd.underlying26 (hval 5 26 v5 rfl rfl)
  obtain ⟨m5, hm5⟩ := h5
  obtain ⟨_, _, _, l5, e5, S5⟩ := open_digs (cs := [.slice a5 n5 c5]) (by simpa [Value.cells] using hm5)
  simp only [List.cons.injEq, Value.slice.injEq, and_true] at e5
  obtain ⟨rfl, rfl, rfl⟩ := e5
  clear hm5
  have hT := tabs_of_laid hL
  clear hA0 hval0
  refine (once_walk d0 ⟨k0, k0b⟩ y1 ok1 y2 ok2 b3 b4 a5 n5 c5 l5 W hT S5).mono fun e W' ⟨he, bel⟩ => ?_
  subst he
  exact ⟨_, rfl, _, _, _, [], _, [], hW', trodAll_mk1 (shut_bool Tryd.underlying4 _),
    (trodAll_cons_mk (Below.trod laidOut (by kernel_rfl) (of_decide_eq_true (by kernel_rfl)) k0' bel lt0) (trodAll_cons_mk (Below.trod laidOut (by kernel_rfl) (of_decide_eq_true (by kernel_rfl)) k1' bel lt1) (trodAll_cons_mk (Below.trod laidOut (by kernel_rfl) (of_decide_eq_true (by kernel_rfl)) k2' bel lt2) (trodAll_cons_mk (Below.trod laidOut (by kernel_rfl) (of_decide_eq_true (by kernel_rfl)) k3' bel lt3) (trodAll_cons_mk (Below.trod laidOut (by kernel_rfl) (of_decide_eq_true (by kernel_rfl)) k4' bel lt4) (trodAll_cons_mk (Below.trod laidOut (by kernel_rfl) (of_decide_eq_true (by kernel_rfl)) k5' bel lt5) trodAll_mk0)))))), rfl, bel.frame _, fun h => by cases h⟩

theorem over : Rows.DirectoryOnceSaid :=
  OpenClaim.holds_of_wide 3 Tryd.f3 rfl rfl rfl rfl rfl rfl rfl ⟨rfl, rfl, rfl, rfl, rfl⟩ rfl rfl rfl rfl rfl (by kernel_rfl) Tryd.func3 (by kernel_rfl)
    (of_decide_eq_true (by kernel_rfl)) (by unfold Func.isWrapper; first | (rw [if_pos (by decide +kernel)]; kernel_rfl) | (rw [if_neg (by decide +kernel)]; exact ⟨rfl, rfl⟩))
    (fun os started H enc _ => lifted os started H enc)

theorem proved : Rows.DirectoryOnceCardSaid :=
  Claim7.holds_tied_plain_at .later [] [.data, .data, .sentinel] true (true, "cdc3db1ef9041a4fc997babca7c34f73695527ed7086bb35f67a18911f670318") false
    over (fun _ h => by cases h) (by kernel_rfl) (fun _ h => by cases h) directoryOnce_row_tie rfl ⟨rfl, rfl⟩ (by kernel_rfl) rfl
    (fun f fn hf hfn => by
      obtain rfl : f = 3 := Option.some.inj ((show Tryd.prog.funcNamed "chartroom/chartroomlaw35.DirectoryOnce" = some 3 by kernel_rfl).symm.trans hf) |>.symm
      obtain rfl : fn = Tryd.f3 := (Option.some.inj (Tryd.func3.symm.trans hfn)).symm
      exact ⟨by kernel_rfl, fun j t ht => by
        rw [Tryd.params3] at ht
        have hm : t ∈ [23, 25, 25, 4, 4, 26] := by simpa using Array.mem_of_getElem? ht
        have hall : ([23, 25, 25, 4, 4, 26].all fun u => !Tryd.prog.wantsStandIn u) = true := by kernel_rfl
        exact (show Tryd.prog.wantsStandIn t = false by simpa using List.all_eq_true.1 hall t hm)⟩)
    (by kernel_rfl)
#print axioms proved
end Go.Proofs.YthnfjkgiaanmhaaDoor.lawOnce

