/- the reference 01: unsigned, numeral, Int, Text, List the reference 01: Check, encode, Encode the references 01, 02, 30: Encode, Message, Digests, Chain -/
import Derived.Test.YtnonfdcbnkdmcaaGreatDoorAl
import Derived.Test.YtnonfdcbnkdmcaaGreatDoorRfV
import Derived.Test.YtnonfdcbnkdmcaaGreatDoorCoA
import Derived.KernelRfl
import Derived.Laws.ResultCell
import Derived.Deep.MidRow
import Derived.Lib.AppendStr
import Derived.Test.YtnonfdcbnkdmcaaGreatDoorRsA
import Derived.Test.YtnonfdcbnkdmcaaGreatDoorRgA
import Derived.Test.YtnonfdcbnkdmcaaGreatDoorSve
namespace Go.Mem
open Go.RowKit
variable {P : Program}
theorem load_blkY {W : World} {g : Nat} {t ty : TypeId} {r : List Value} {d : TypeDesc} (hB : Blk W g t r) (hu : P.underlying ty = some d) (hd : d.isRow = true) (hi : (P.info? ty).map (·.size) = some r.length) :
 (loadVar ty ⟨g, 0, none⟩).run P W = .ok (.agg r.toArray) W := run_loadVar_mid W g 0 ty r d hB.range hu hd hi

theorem ret_cellY {fn : Func} {p : Tmp} {ty t : TypeId} (h : fn.results = #[.cell p ty]) {W : World} {g : Nat} {r : List Value} {d : TypeDesc} (hB : Blk W g t r) (hu : P.underlying ty = some d) (hd : d.isRow = true) (hi : (P.info? ty).map (·.size) = some r.length)
 {a : Act} (hp : a.tmps.getD p undef = .pointer (some ⟨g, 0, none⟩)) (hdf : a.defers = []) {Post : Ending → World → Prop} (hP : Post (.returned (.agg r.toArray)) W) : bodyPost P fn Post .ret a W := by
 refine bodyPost_ret (v := .agg r.toArray) ?_ hdf hP
 have hp' : a.tmps[p]?.getD undef = .pointer (some ⟨g, 0, none⟩) := by simpa using hp
 simp [results, h, hp', asAddr, load_blkY hB hu hd hi]

end Go.Mem
namespace Go.Proofs.YtnonfdcbnkdmcaaGreatDoor
open Go.RowKit Go.Mem
open Go.Sto (Ent Lg St)

theorem xor_ones (a : Nat) (h : a < 18446744073709551616) : a ^^^ 18446744073709551615 = 18446744073709551615 - a := by
 apply Nat.eq_of_testBit_eq
 intro i
 have e1 : (18446744073709551615 : Nat) = 2 ^ 64 - 1 := by decide
 have e2 : 18446744073709551615 - a = 2 ^ 64 - (a + 1) := by omega
 rw [Nat.testBit_xor, e1, Nat.testBit_two_pow_sub_one, ← e1, e2, Nat.testBit_two_pow_sub_succ h]
 by_cases hi : i < 64
 · simp [hi]
 · have : a.testBit i = false := Nat.testBit_lt_two_pow (Nat.lt_of_lt_of_le h (by rw [show (18446744073709551616 : Nat) = 2 ^ 64 by decide]; exact Nat.pow_le_pow_right (by omega) (by omega)))
   simp [hi, this]
theorem h264 : ((2 ^ 64 : Nat) : Int) = 18446744073709551616 := rfl
theorem zigN_pos {n : Int} (hn : I64 n) (h : 0 ≤ n) : (zigN n : Int) = 2 * n := by
 rw [← (zigN_eq n).1]
 unfold Cod.zig
 obtain ⟨h1, h2⟩ := hn
 rw [show n / 9223372036854775808 = 0 by omega, IntKind.wrap_u64, IntKind.wrap_u64, IntKind.wrap_u64]
 show IntKind.u64.wrap (((BitVec.ofInt 64 (n % 18446744073709551616 * 2 % 18446744073709551616) ^^^ BitVec.ofInt 64 (0 % 18446744073709551616)).toNat : Nat) : Int) = 2 * n
 rw [show n % 18446744073709551616 * 2 % 18446744073709551616 = 2 * n by omega, show (0 : Int) % 18446744073709551616 = 0 by omega, BitVec.toNat_xor, BitVec.toNat_ofInt, BitVec.toNat_ofInt, IntKind.wrap_u64, h264]
 rw [show ((0 : Int) % 18446744073709551616).toNat = 0 by omega, Nat.xor_zero]
 omega
theorem zigN_neg {n : Int} (hn : I64 n) (h : n < 0) : (zigN n : Int) = 2 * (-(n + 1)) + 1 := by
 rw [← (zigN_eq n).1]
 unfold Cod.zig
 obtain ⟨h1, h2⟩ := hn
 rw [show n / 9223372036854775808 = -1 by omega, IntKind.wrap_u64, IntKind.wrap_u64, IntKind.wrap_u64]
 show IntKind.u64.wrap (((BitVec.ofInt 64 (n % 18446744073709551616 * 2 % 18446744073709551616) ^^^ BitVec.ofInt 64 (-1 % 18446744073709551616)).toNat : Nat) : Int) = 2 * (-(n + 1)) + 1
 rw [show n % 18446744073709551616 * 2 % 18446744073709551616 = 18446744073709551616 + 2 * n by omega, show (-1 : Int) % 18446744073709551616 = 18446744073709551615 by omega, BitVec.toNat_xor, BitVec.toNat_ofInt, BitVec.toNat_ofInt, IntKind.wrap_u64, h264]
 rw [show ((18446744073709551615 : Int) % 18446744073709551616).toNat = 18446744073709551615 by omega, xor_ones _ (by omega)]
 omega
theorem own_u8 (W : World) (x : Nat) (hx : x < 256) : OwnY W.heap.size (W.alloc (.cells #[.int .u8 (x : Int)] 5)) (.slice (some ⟨W.heap.size, 0, none⟩) 1 1) [x] :=
 ⟨⟨rfl, Or.inr ⟨W.heap.size, 1, #[.int .u8 (x : Int)], rfl, Nat.le_refl _, heap_alloc_new W _, Nat.le_refl _, by unfold maxLen; omega, rfl, rfl⟩⟩, by simpa using hx⟩
def OwnP (l : List Nat) (w : World) (e : Ending) (w' : World) : Prop := ∃ v, e = .returned v ∧ OwnY w.heap.size w' v l ∧ Below w.heap.size w w'

set_option maxRecDepth 20000 in
set_option maxHeartbeats 1000000 in
theorem r1numeral_any : ∀ (k u : Nat), u < 128 ^ (k + 1) → k ≤ 9 → u < 18446744073709551616 → ∀ (w : World), Calls Tryz.prog 207 #[.int .u64 (u : Int)] w (OwnP (Cod.numl u) w) := by
 intro k
 induction k with
 | zero =>
  intro u hu _ _ w
  have hu' : u < 128 := by simpa using hu
  rw [Cod.numl_small hu']
  have q0 : decide ((u : Int) < 128) = true := decide_eq_true (by omega)
  have q1 : (u : Int) % 256 = (u : Int) := by omega
  have ho := Lib.hid (own_u8 w u (by omega))
  have hb : Hid (Below w.heap.size w (w.alloc (.cells #[.int .u8 (u : Int)] 5))) := (Below.refl _ w).alloc (Nat.le_refl _) _
  go_enter Tryz.func207, Tryz.ntmps207
  go_wp2_with fail
  go_ret
  exact ⟨_, rfl, ho.out, hb.out⟩
 | succ k ih =>
  intro u hu hk h64 w
  by_cases hs : u < 128
  · rw [Cod.numl_small hs]
    have q0 : decide ((u : Int) < 128) = true := decide_eq_true (by omega)
    have q1 : (u : Int) % 256 = (u : Int) := by omega
    have ho := Lib.hid (own_u8 w u (by omega))
    have hb : Hid (Below w.heap.size w (w.alloc (.cells #[.int .u8 (u : Int)] 5))) := (Below.refl _ w).alloc (Nat.le_refl _) _
    clear ih
    go_enter Tryz.func207, Tryz.ntmps207
    go_wp2_with fail
    go_ret
    exact ⟨_, rfl, ho.out, hb.out⟩
  · rw [Cod.numl_big hs]
    have q0 : decide ((u : Int) < 128) = false := decide_eq_false (by omega)
    have hy : u / 128 < 128 ^ (k + 1) := by rw [Nat.div_lt_iff_lt_mul (by omega)]; rw [Nat.pow_succ] at hu; exact hu
    obtain ⟨x, hx⟩ : ∃ x, u % 128 + 128 = x := ⟨_, rfl⟩
    obtain ⟨y, hyy⟩ : ∃ y, u / 128 = y := ⟨_, rfl⟩
    rw [hx]
    rw [hyy] at hy ⊢
    have q2 : (u : Int) % 128 = ((x - 128 : Nat) : Int) := by omega
    have q2' : Int.tmod (u : Int) 128 = ((x - 128 : Nat) : Int) := by rw [Int.tmod_eq_emod_of_nonneg (by omega)]; omega
    have q3 : IntKind.u64.wrap (((x - 128 : Nat) : Int) + 128) = (x : Int) := by rw [IntKind.wrap_u64]; omega
    have q4 : (x : Int) % 256 = (x : Int) := by omega
    have q5 : (u : Int) / 128 = (y : Int) := by omega
    have q5' : Int.tdiv (u : Int) 128 = (y : Int) := by rw [Int.tdiv_eq_ediv_of_nonneg (by omega)]; omega
    have hih := Lib.hid (ih y hy (by omega) (by omega))
    have hxl : x < 256 := by omega
    clear ih
    go_enter Tryz.func207, Tryz.ntmps207
    go_wp2_with fail
    refine (hih.out _).mono ?_
    rintro e w2 ⟨v2, rfl, ho2, hb2⟩
    have hal : Below w.heap.size w (w.alloc (.cells #[.int .u8 (x : Int)] 5)) := (Below.refl _ w).alloc (Nat.le_refl _) _
    have hl := Cod.numl_len64 (u := y) (by omega)
    obtain ⟨v3, w3, hr3, ho3, hb3⟩ := append_own ((own_u8 w x hxl).below hb2) (Nat.le_trans hal.size hb2.size) (hal.trans (hb2.mono hal.size)) ho2 (by simp; omega)
    have hr3' := Lib.hid hr3; have ho3' := Lib.hid ho3; have hb3' := Lib.hid hb3
    clear hr3 ho3 hb3 ho2 hb2 hal hih
    go_wp2_with (first
     | (at_builtin; refine Lib.wpList_append_run _ rfl _ _ _ _ rfl _ _ rfl rfl _ _ (hr3'.out _) ?_))
    go_ret
    exact ⟨_, rfl, ho3'.out, hb3'.out⟩

set_option maxHeartbeats 400000 in
theorem r1unsigned_any (n : Int) (hn : I64 n) (w : World) : Calls Tryz.prog 208 #[.int .i64 n] w (RetQ (.int .u64 (zigN n : Int)) w) := by
 by_cases h : 0 ≤ n
 · have hz := zigN_pos hn h
   obtain ⟨h1, h2⟩ := hn
   have q1 : IntKind.u64.wrap n = n := by rw [IntKind.wrap_u64]; omega
   have q2 : IntKind.u64.wrap (2 * n) = (zigN n : Int) := by rw [IntKind.wrap_u64, hz]; omega
   have q3 : n % 18446744073709551616 = n := by omega
   have q4 : 2 * n % 18446744073709551616 = (zigN n : Int) := by rw [hz]; omega
   generalize zigN n = z at *
   clear hz
   go_enter Tryz.func208, Tryz.ntmps208
   go_wp2_with fail
   go_returns
   exact ⟨rfl, rfl⟩
 · have hz := zigN_neg hn (by omega)
   obtain ⟨h1, h2⟩ := hn
   have q0 : decide (0 ≤ n) = false := decide_eq_false h
   have q1 : IntKind.i64.wrap (n + 1) = n + 1 := IntWalk.i64_in _ (by omega)
   have q2 : IntKind.i64.wrap (-(n + 1)) = -(n + 1) := IntWalk.i64_in _ (by omega)
   have q3 : IntKind.u64.wrap (-(n + 1)) = -(n + 1) := by rw [IntKind.wrap_u64]; omega
   have q3' : -(n + 1) % 18446744073709551616 = -(n + 1) := by omega
   have q4 : IntKind.u64.wrap (2 * -(n + 1)) = 2 * -(n + 1) := by rw [IntKind.wrap_u64]; omega
   have q4' : 2 * -(n + 1) % 18446744073709551616 = 2 * -(n + 1) := by omega
   have q5 : IntKind.u64.wrap (2 * -(n + 1) + 1) = (zigN n : Int) := by rw [IntKind.wrap_u64, hz]; omega
   have q5' : (2 * -(n + 1) + 1) % 18446744073709551616 = (zigN n : Int) := by rw [hz]; omega
   generalize zigN n = z at *
   clear hz h
   go_enter Tryz.func208, Tryz.ntmps208
   go_wp2_with fail
   go_returns
   exact ⟨rfl, rfl⟩
def ValP (r : List Value) (w : World) (e : Ending) (w' : World) : Prop := e = .returned (.agg r.toArray) ∧ Below w.heap.size w w'
set_option maxHeartbeats 400000 in
theorem r1int_any (n : Int) (w : World) : Calls Tryz.prog 144 #[.int .i64 n] w (ValP (fvC (.int n)) w) := by
 go_enter Tryz.func144, Tryz.ntmps144
 go_wp2_with fail
 exact ret_cellY (p := 2) rfl (Blk.new w 169 (fvC (.int n))) Tryz.underlying169 rfl sizeV rfl rfl ⟨rfl, (Below.refl _ w).alloc (Nat.le_refl _) _⟩
set_option maxHeartbeats 400000 in
theorem r1text_any (s : ByteArray) (w : World) : Calls Tryz.prog 145 #[.string s] w (ValP (fvC (.text s)) w) := by
 go_enter Tryz.func145, Tryz.ntmps145
 go_wp2_with fail
 exact ret_cellY (p := 2) rfl (Blk.new w 169 (fvC (.text s))) Tryz.underlying169 rfl sizeV rfl rfl ⟨rfl, (Below.refl _ w).alloc (Nat.le_refl _) _⟩
def lsC (b n c : Nat) : List Value := [.int .i64 3, .int .i64 0, .string ⟨#[]⟩, .slice (some ⟨b, 0, none⟩) n c]
set_option maxHeartbeats 400000 in
theorem r1list_any (b n c : Nat) (w : World) : Calls Tryz.prog 143 #[.slice (some ⟨b, 0, none⟩) n c] w (ValP (lsC b n c) w) := by
 go_enter Tryz.func143, Tryz.ntmps143
 go_wp2_with fail
 exact ret_cellY (p := 2) rfl (Blk.new w 169 (lsC b n c)) Tryz.underlying169 rfl sizeV rfl rfl ⟨rfl, (Below.refl _ w).alloc (Nat.le_refl _) _⟩

/-! ### Formed, Depth, Check -/
set_option maxHeartbeats 1000000 in
theorem r1formedF_any (x : FV) (w : World) : Calls Tryz.prog 205 #[.agg (fvC x).toArray] w (RetBo true w) := by
 obtain ⟨g, hg⟩ : ∃ g, Hid (w.heap.size = g) := ⟨_, rfl⟩
 cases x with
 | int n =>
  go_enter Tryz.func205, Tryz.ntmps205
  go_upto_region 1 with fail
  rw [hg.out]
  generalize hW : World.alloc w _ = W
  have hB : Blk W g 169 (fvC (.int n)) := by rw [← hW, ← hg.out]; exact Blk.new w _ _
  have hb : Hid (Below w.heap.size w W) := by rw [← hW]; exact (Below.refl _ w).alloc (Nat.le_refl _) _
  have c0 : W.cell? ⟨g, 0, none⟩ = some (.int .i64 1) := hB.at_ (i := 0) rfl
  have c2 : W.cell? ⟨g, 2, none⟩ = some (.string ⟨#[]⟩) := hB.at_ (i := 2) rfl
  have c3 : W.cell? ⟨g, 3, none⟩ = some (.slice none 0 0) := hB.at_ (i := 3) rfl
  clear hW hB
  go_wp2_with fail
  go_ret
  exact ⟨rfl, hb.out⟩
 | text s =>
  go_enter Tryz.func205, Tryz.ntmps205
  go_upto_region 1 with fail
  rw [hg.out]
  generalize hW : World.alloc w _ = W
  have hB : Blk W g 169 (fvC (.text s)) := by rw [← hW, ← hg.out]; exact Blk.new w _ _
  have hb : Hid (Below w.heap.size w W) := by rw [← hW]; exact (Below.refl _ w).alloc (Nat.le_refl _) _
  have c0 : W.cell? ⟨g, 0, none⟩ = some (.int .i64 2) := hB.at_ (i := 0) rfl
  have c1 : W.cell? ⟨g, 1, none⟩ = some (.int .i64 0) := hB.at_ (i := 1) rfl
  have c3 : W.cell? ⟨g, 3, none⟩ = some (.slice none 0 0) := hB.at_ (i := 3) rfl
  clear hW hB
  go_wp2_with fail
  go_ret
  exact ⟨rfl, hb.out⟩
set_option maxHeartbeats 1000000 in
theorem r1depthF_any (x : FV) (w : World) : Calls Tryz.prog 206 #[.agg (fvC x).toArray] w (RetI 0 w) := by
 obtain ⟨g, hg⟩ : ∃ g, Hid (w.heap.size = g) := ⟨_, rfl⟩
 obtain ⟨k, hk, hk3⟩ : ∃ k, Hid ((fvC x)[0]? = some (.int .i64 k)) ∧ (k != 3) = true := by
  cases x with
  | int n => exact ⟨1, rfl, rfl⟩
  | text s => exact ⟨2, rfl, rfl⟩
 go_enter Tryz.func206, Tryz.ntmps206
 go_upto_region 1 with fail
 rw [hg.out]
 generalize hW : World.alloc w _ = W
 have hB : Blk W g 169 (fvC x) := by rw [← hW, ← hg.out]; exact Blk.new w _ _
 have hb : Hid (Below w.heap.size w W) := by rw [← hW]; exact (Below.refl _ w).alloc (Nat.le_refl _) _
 have c0 := hB.at_ (i := 0) hk.out
 clear hW hB hk
 go_wp2_with fail
 go_ret
 exact ⟨rfl, hb.out⟩
end Go.Proofs.YtnonfdcbnkdmcaaGreatDoor
namespace Go.Proofs.YtnonfdcbnkdmcaaGreatDoor
open Go.RowKit Go.Mem
open Go.Sto (Ent Lg St)

theorem append_strY {B : Nat} {w0 W : World} {v : Value} {l : List Nat} {s : ByteArray} (ho : OwnY B W v l) (hB : B ≤ W.heap.size) (hb0 : Below B w0 W) (hn : l.length + s.size ≤ 140737488355328) :
 ∃ v' W', (∀ ty, (Builtin.append_ #[71, 9] ty #[v, .string s]).run Tryz.prog W = .ok v' W') ∧ OwnY B W' v' (l ++ octets s) ∧ Below B w0 W' := by
 obtain ⟨i0, hi, hz0, hz1, hz2⟩ := info_parts infoB
 obtain ⟨v', w', hr, h2, h3, _⟩ := Lib.run_append_own_string (P := Tryz.prog) W B 71 9 0 5 i0 Tryz.underlying71 Tryz.underlying9 hi hz0 hz1 hz2 v l.length (bv l) ho.1 s (by unfold maxLen; omega) (by omega) hB
 refine ⟨v', w', fun ty => by rw [← hr]; rfl, ⟨?_, fun x hx => ?_⟩, hb0.grown h3 hB (fun g e => (World.ownsRow.lt ho.1 g e).1)⟩
 · rw [bv_append, List.length_append, octets_length, ← strCells_bv]
   exact h2
 · rcases List.mem_append.1 hx with hx | hx
   · exact ho.2 x hx
   · simp only [octets, List.mem_map] at hx
     obtain ⟨b, _, rfl⟩ := hx
     exact b.toNat_lt
theorem fvC_form (x : FV) : ∃ k n s, fvC x = [.int .i64 k, .int .i64 n, .string s, .slice none 0 0] := by
 cases x with
 | int n => exact ⟨1, n, ⟨#[]⟩, rfl⟩
 | text s => exact ⟨2, 0, s, rfl⟩

set_option maxRecDepth 20000 in
set_option maxHeartbeats 1000000 in
theorem r1formedL_any (b n c : Nat) (l : List FV) (w : World) (H : FS w b n c l) : Calls Tryz.prog 205 #[.agg (lsC b n c).toArray] w (RetBo true w) := by
 obtain ⟨g, hg⟩ : ∃ g, Hid (w.heap.size = g) := ⟨_, rfl⟩
 have n63 : (n : Int) ≤ 1000 := by have := H.bd; omega
 have hlen := H.len
 obtain ⟨X, hX⟩ : ∃ X, X = RetBo true w := ⟨_, rfl⟩
 have hfin : Hid (∀ W, Below w.heap.size w W → X (.returned (.bool true)) W) := fun W h => by rw [hX]; exact ⟨rfl, h⟩
 rw [← hX]
 clear hX
 go_enter Tryz.func205, Tryz.ntmps205
 go_upto_region 1 with fail
 rw [hg.out]
 generalize hW : World.alloc w _ = W0
 have hB : Hid (Blk W0 g 169 (lsC b n c)) := by rw [← hW, ← hg.out]; exact Blk.new w _ (lsC b n c)
 have hb : Hid (Below w.heap.size w W0) := by rw [← hW]; exact (Below.refl _ w).alloc (Nat.le_refl _) _
 clear hW
 have HF := Lib.hid (H.below hb.out)
 clear H
 have hsc : Hid (∀ wz, Below W0.heap.size W0 wz → wz.cell? ⟨g, 3, none⟩ = some (.slice (some ⟨b, 0, none⟩) n c)) := fun wz h => (hB.out.below h hB.out.lt).at_ (i := 3) rfl
 have c0 : W0.cell? ⟨g, 0, none⟩ = some (.int .i64 3) := hB.out.at_ (i := 0) rfl
 have c1 : W0.cell? ⟨g, 1, none⟩ = some (.int .i64 0) := hB.out.at_ (i := 1) rfl
 have c2 : W0.cell? ⟨g, 2, none⟩ = some (.string ⟨#[]⟩) := hB.out.at_ (i := 2) rfl
 go_upto_region 7 with fail
 go_wp2_with fail
 go_loopw [3] (fun i wr => ∃ k : Nat, k ≤ n ∧ i = .int .i64 (k : Int) ∧ Hid (Below W0.heap.size W0 wr)) (fun i _ => n - (intOf i).toNat)
 case atStart => exact ⟨0, Nat.zero_le _, rfl, Below.refl _ _⟩
 case round =>
  obtain ⟨k, hk, rfl, hb9⟩ := hrel
  have s3 := hsc.out wr hb9.out
  by_cases hlt : k < n
  · clear s3
    obtain ⟨x, hx⟩ : ∃ x, l[k]? = some x := ⟨_, List.getElem?_eq_getElem (by omega)⟩
    obtain ⟨xk, xn, xs, hxf⟩ := fvC_form x
    have hr0 := ((HF.out.below hb9.out).row hx) 0 (.int .i64 xk) (by rw [hxf]; rfl)
    have hr1 := ((HF.out.below hb9.out).row hx) 1 (.int .i64 xn) (by rw [hxf]; rfl)
    have hr2 := ((HF.out.below hb9.out).row hx) 2 (.string xs) (by rw [hxf]; rfl)
    have hr3 := ((HF.out.below hb9.out).row hx) 3 (.slice none 0 0) (by rw [hxf]; rfl)
    rw [Nat.add_zero] at hr0
    have k0 : (0 : Int) ≤ (k : Int) := by omega
    have k1 : (k : Int) < (n : Int) := by omega
    have s3 := hsc.out wr hb9.out
    have hfm := r1formedF_any x wr
    rw [hxf] at hfm
    have hfm' := Lib.hid hfm
    clear hfm hx hxf
    go_wp2_with fail
    refine hfm'.out.mono ?_
    rintro e w2 ⟨rfl, hb2⟩
    have hb3 := Lib.hid (hb9.out.trans (hb2.mono hb9.out.size))
    clear hr0 hr1 hr2 hr3 s3 hb2 hfm'
    go_wp2_with fail
    go_roundw
    case rel => exact ⟨k + 1, by omega, by go_num, hb3⟩
    case measure => simp [intOf]; omega
  · obtain rfl : k = n := by omega
    have d1 : wr.cell? ⟨g, 1, none⟩ = some (.int .i64 0) := (hB.out.below hb9.out hB.out.lt).at_ (i := 1) rfl
    have d2 : wr.cell? ⟨g, 2, none⟩ = some (.string ⟨#[]⟩) := (hB.out.below hb9.out hB.out.lt).at_ (i := 2) rfl
    have hend := Lib.hid (hfin.out wr (hb.out.trans (hb9.out.mono hb.out.size)))
    go_wp2_with fail
    exact hend.out
set_option maxRecDepth 20000 in
set_option maxHeartbeats 1000000 in
theorem r1depthL_any (b n c : Nat) (l : List FV) (w : World) (H : FS w b n c l) : Calls Tryz.prog 206 #[.agg (lsC b n c).toArray] w (RetI 1 w) := by
 obtain ⟨g, hg⟩ : ∃ g, Hid (w.heap.size = g) := ⟨_, rfl⟩
 have n63 : (n : Int) ≤ 1000 := by have := H.bd; omega
 have hlen := H.len
 obtain ⟨X, hX⟩ : ∃ X, X = RetI 1 w := ⟨_, rfl⟩
 have hfin : Hid (∀ W, Below w.heap.size w W → X (.returned (.int .i64 1)) W) := fun W h => by rw [hX]; exact ⟨rfl, h⟩
 rw [← hX]
 clear hX
 go_enter Tryz.func206, Tryz.ntmps206
 go_upto_region 1 with fail
 rw [hg.out]
 generalize hW : World.alloc w _ = W0
 have hB : Hid (Blk W0 g 169 (lsC b n c)) := by rw [← hW, ← hg.out]; exact Blk.new w _ (lsC b n c)
 have hb : Hid (Below w.heap.size w W0) := by rw [← hW]; exact (Below.refl _ w).alloc (Nat.le_refl _) _
 clear hW
 have HF := Lib.hid (H.below hb.out)
 clear H
 have hsc : Hid (∀ wz, Below W0.heap.size W0 wz → wz.cell? ⟨g, 3, none⟩ = some (.slice (some ⟨b, 0, none⟩) n c)) := fun wz h => (hB.out.below h hB.out.lt).at_ (i := 3) rfl
 have c0 : W0.cell? ⟨g, 0, none⟩ = some (.int .i64 3) := hB.out.at_ (i := 0) rfl
 have c1 : W0.cell? ⟨g, 1, none⟩ = some (.int .i64 0) := hB.out.at_ (i := 1) rfl
 have c2 : W0.cell? ⟨g, 2, none⟩ = some (.string ⟨#[]⟩) := hB.out.at_ (i := 2) rfl
 go_wp2_with fail
 go_loopw [3, 4] (fun m i wr => ∃ k : Nat, k ≤ n ∧ i = .int .i64 (k : Int) ∧ m = .int .i64 0 ∧ Hid (Below W0.heap.size W0 wr)) (fun _ i _ => n - (intOf i).toNat)
 case atStart => exact ⟨0, Nat.zero_le _, rfl, rfl, Below.refl _ _⟩
 case round =>
  obtain ⟨k, hk, rfl, rfl, hb9⟩ := hrel
  have s3 := hsc.out wr hb9.out
  by_cases hlt : k < n
  · clear s3
    obtain ⟨x, hx⟩ : ∃ x, l[k]? = some x := ⟨_, List.getElem?_eq_getElem (by omega)⟩
    obtain ⟨xk, xn, xs, hxf⟩ := fvC_form x
    have hr0 := ((HF.out.below hb9.out).row hx) 0 (.int .i64 xk) (by rw [hxf]; rfl)
    have hr1 := ((HF.out.below hb9.out).row hx) 1 (.int .i64 xn) (by rw [hxf]; rfl)
    have hr2 := ((HF.out.below hb9.out).row hx) 2 (.string xs) (by rw [hxf]; rfl)
    have hr3 := ((HF.out.below hb9.out).row hx) 3 (.slice none 0 0) (by rw [hxf]; rfl)
    rw [Nat.add_zero] at hr0
    have k0 : (0 : Int) ≤ (k : Int) := by omega
    have k1 : (k : Int) < (n : Int) := by omega
    have s3 := hsc.out wr hb9.out
    have hfm := r1depthF_any x wr
    rw [hxf] at hfm
    have hfm' := Lib.hid hfm
    clear hfm hx hxf
    go_wp2_with fail
    refine hfm'.out.mono ?_
    rintro e w2 ⟨rfl, hb2⟩
    have hb3 := Lib.hid (hb9.out.trans (hb2.mono hb9.out.size))
    clear hr0 hr1 hr2 hr3 s3 hb2 hfm'
    go_wp2_with fail
    go_roundw
    case rel => exact ⟨k + 1, by omega, by go_num, rfl, hb3⟩
    case measure => simp [intOf]; omega
  · obtain rfl : k = n := by omega
    have hend := Lib.hid (hfin.out wr (hb.out.trans (hb9.out.mono hb.out.size)))
    go_wp2_with fail
    exact hend.out
set_option maxHeartbeats 1000000 in
theorem r1checkL_any (b n c : Nat) (l : List FV) (w : World) (H : FS w b n c l) : Calls Tryz.prog 179 #[.agg (lsC b n c).toArray] w (RetI 0 w) := by
 obtain ⟨g, hg⟩ : ∃ g, Hid (w.heap.size = g) := ⟨_, rfl⟩
 have n63 : (n : Int) ≤ 1000 := by have := H.bd; omega
 have hlen := H.len
 obtain ⟨X, hX⟩ : ∃ X, X = RetI 0 w := ⟨_, rfl⟩
 have hfin : Hid (∀ W, Below w.heap.size w W → X (.returned (.int .i64 0)) W) := fun W h => by rw [hX]; exact ⟨rfl, h⟩
 rw [← hX]
 clear hX
 go_enter Tryz.func179, Tryz.ntmps179
 go_upto_region 1 with fail
 rw [hg.out]
 generalize hW : World.alloc w _ = W0
 have hB : Hid (Blk W0 g 169 (lsC b n c)) := by rw [← hW, ← hg.out]; exact Blk.new w _ (lsC b n c)
 have hb : Hid (Below w.heap.size w W0) := by rw [← hW]; exact (Below.refl _ w).alloc (Nat.le_refl _) _
 clear hW
 have HF := Lib.hid (H.below hb.out)
 clear H
 have hsc : Hid (∀ wz, Below W0.heap.size W0 wz → wz.cell? ⟨g, 3, none⟩ = some (.slice (some ⟨b, 0, none⟩) n c)) := fun wz h => (hB.out.below h hB.out.lt).at_ (i := 3) rfl
 have c0 : W0.cell? ⟨g, 0, none⟩ = some (.int .i64 3) := hB.out.at_ (i := 0) rfl
 have c1 : W0.cell? ⟨g, 1, none⟩ = some (.int .i64 0) := hB.out.at_ (i := 1) rfl
 have c2 : W0.cell? ⟨g, 2, none⟩ = some (.string ⟨#[]⟩) := hB.out.at_ (i := 2) rfl
 have c3 := hsc.out W0 (Below.refl _ _)
 go_wp2_with fail
 refine (r1formedL_any b n c l W0 HF.out).mono ?_
 rintro e w1 ⟨rfl, hb1⟩
 clear c0 c1 c2 c3
 have c0 : w1.cell? ⟨g, 0, none⟩ = some (.int .i64 3) := (hB.out.below hb1 hB.out.lt).at_ (i := 0) rfl
 have c1 : w1.cell? ⟨g, 1, none⟩ = some (.int .i64 0) := (hB.out.below hb1 hB.out.lt).at_ (i := 1) rfl
 have c2 : w1.cell? ⟨g, 2, none⟩ = some (.string ⟨#[]⟩) := (hB.out.below hb1 hB.out.lt).at_ (i := 2) rfl
 have c3 := hsc.out w1 hb1
 have hb1' := Lib.hid hb1
 clear hb1
 go_wp2_with fail
 refine (r1depthL_any b n c l w1 (HF.out.below hb1'.out)).mono ?_
 rintro e w2 ⟨rfl, hb2⟩
 have hend := Lib.hid (hfin.out w2 (hb.out.trans ((hb1'.out.trans (hb2.mono hb1'.out.size)).mono hb.out.size)))
 clear c0 c1 c2 c3 hb2 hb1'
 go_wp2_with fail
 exact hend.out

def TxW (w : World) (g : Nat) (s : ByteArray) (wz : World) : Prop := Blk wz g 169 (fvC (.text s)) ∧ Below w.heap.size w wz
theorem TxW.next {w wz wq : World} {g : Nat} {s : ByteArray} (h : TxW w g s wz) (hb : Below wz.heap.size wz wq) : TxW w g s wq := ⟨h.1.below hb h.1.lt, h.2.trans (hb.mono h.2.size)⟩
set_option maxRecDepth 20000 in
set_option maxHeartbeats 2000000 in
theorem r1encI_any (n : Int) (hn : I64 n) (w : World) : Calls Tryz.prog 180 #[.agg (fvC (.int n)).toArray] w (OwnP (encF (.int n)) w) := by
 obtain ⟨g, hg⟩ : ∃ g, Hid (w.heap.size = g) := ⟨_, rfl⟩
 obtain ⟨X, hX⟩ : ∃ X, X = OwnP (encF (.int n)) w := ⟨_, rfl⟩
 have hfin : Hid (∀ v W, OwnY w.heap.size W v (1 :: Cod.numl (zigN n)) → Below w.heap.size w W → X (.returned v) W) := fun v W h1 h2 => by rw [hX]; exact ⟨v, rfl, h1, h2⟩
 rw [← hX]
 clear hX
 have hun := Lib.hid (fun W => r1unsigned_any n hn W)
 have hz := (zigN_eq n).2
 have hnum := Lib.hid (fun W => r1numeral_any 9 (zigN n) (by omega) (by omega) hz W)
 have hnl := Lib.hid (Cod.numl_len64 hz)
 generalize zigN n = z at *
 go_enter Tryz.func180, Tryz.ntmps180
 go_upto_region 1 with fail
 rw [hg.out]
 generalize hW : World.alloc w _ = W
 have hB : Hid (Blk W g 169 (fvC (.int n))) := by rw [← hW, ← hg.out]; exact Blk.new w _ _
 have hb : Hid (Below w.heap.size w W) := by rw [← hW]; exact (Below.refl _ w).alloc (Nat.le_refl _) _
 clear hW
 have c0 : W.cell? ⟨g, 0, none⟩ = some (.int .i64 1) := hB.out.at_ (i := 0) rfl
 have hal : Below W.heap.size W (W.alloc (.cells #[.int .u8 1] 5)) := (Below.refl _ W).alloc (Nat.le_refl _) _
 have c1 : (W.alloc (.cells #[.int .u8 1] 5)).cell? ⟨g, 1, none⟩ = some (.int .i64 n) := (hB.out.below hal hB.out.lt).at_ (i := 1) rfl
 have ho0 := Lib.hid (own_u8 W 1 (by omega))
 have hal' := Lib.hid hal
 clear hal
 go_upto_region 3 with fail
 go_wp2_with fail
 refine (hun.out _).mono ?_
 rintro e w1 ⟨rfl, hw1⟩
 rw [hw1]
 clear hw1 w1
 go_wp2_with fail
 refine (hnum.out _).mono ?_
 rintro e w2 ⟨v2, rfl, ho2, hb2⟩
 obtain ⟨v3, w3, hr3, ho3, hb3⟩ := append_own (ho0.out.below hb2) (Nat.le_trans hal'.out.size hb2.size) (hal'.out.trans (hb2.mono hal'.out.size)) ho2 (by have := hnl.out; simp; omega)
 have hr3' := Lib.hid hr3
 have hend := Lib.hid (hfin.out v3 w3 ⟨Sl.owns_mono ho3.1 hb.out.size, ho3.2⟩ (hb.out.trans (hb3.mono hb.out.size)))
 clear hr3 ho3 hb3 ho2 hb2 hal' ho0 c0 c1
 go_wp2_with (first
  | (at_builtin; refine Lib.wpList_append_run _ rfl _ _ _ _ rfl _ _ rfl rfl _ _ (hr3'.out _) ?_))
 exact hend.out

set_option maxRecDepth 20000 in
set_option maxHeartbeats 4000000 in
theorem r1encT_any (s : ByteArray) (hs : s.size ≤ 1000) (w0 : World) : Calls Tryz.prog 180 #[.agg (fvC (.text s)).toArray] w0 (OwnP (encF (.text s)) w0) := by
 obtain ⟨w, hw⟩ : ∃ w, w = w0 := ⟨_, rfl⟩
 rw [← hw]
 clear hw w0
 obtain ⟨g, hg⟩ : ∃ g, Hid (w.heap.size = g) := ⟨_, rfl⟩
 obtain ⟨X, hX⟩ : ∃ X, X = OwnP (encF (.text s)) w := ⟨_, rfl⟩
 have hfin : Hid (∀ v W, OwnY w.heap.size W v ([2] ++ (Cod.numl s.size ++ octets s)) ∧ Below w.heap.size w W → Below w.heap.size w W → X (.returned v) W) := fun v W h1 h2 => by rw [hX]; exact ⟨v, rfl, h1.1, h2⟩
 rw [← hX]
 clear hX
 have hnum := Lib.hid (fun W => r1numeral_any 9 s.size (by omega) (by omega) (by omega) W)
 have hnl := Cod.numl_len64 (u := s.size) (by omega)
 have hsw : IntKind.u64.wrap (s.size : Int) = (s.size : Int) := by rw [IntKind.wrap_u64]; omega
 have hsw2 : (s.size : Int) % 18446744073709551616 = (s.size : Int) := by omega
 go_enter Tryz.func180, Tryz.ntmps180
 go_upto_region 1 with fail
 rw [hg.out]
 generalize hW : World.alloc w _ = W
 have hB : Hid (Blk W g 169 (fvC (.text s))) := by rw [← hW, ← hg.out]; exact Blk.new w _ _
 have hb : Hid (Below w.heap.size w W) := by rw [← hW]; exact (Below.refl _ w).alloc (Nat.le_refl _) _
 clear hW
 have hT : Hid (TxW w g s W) := ⟨hB.out, hb.out⟩
 have c0 : W.cell? ⟨g, 0, none⟩ = some (.int .i64 2) := hB.out.at_ (i := 0) rfl
 clear hB hb
 go_upto_region 5 with fail
 clear c0
 refine wp_region_held_drew (S := fun wz => TxW w g s wz) (by kernel_rfl) (hT.out.next (Below.refl _ W).drew) (fun hHeld => ?_)
 have hh0 := hT.out.next (Below.refl _ W).drew
 have hsz0 : Below W.heap.size W W.drew := (Below.refl _ W).drew
 generalize W.drew = V at *
 refine tQ 1 rfl hHeld ?_
 refine tX 2 rfl (fun wz hSw => hSw.1.at_ (i := 2) rfl) hHeld ?_
 refine tQ 3 rfl hHeld ?_
 refine tQ 4 rfl hHeld ?_
 refine tQ 7 rfl hHeld ?_
 refine tX 8 rfl (fun wz hSw => hSw.1.at_ (i := 2) rfl) hHeld ?_
 refine rd (rs := [0, 5]) ?_
 refine tR rfl (fun K hK => ?_) (tR rfl (fun K hK => ?_) rn)
 case refine_1 =>
  go_simp
  refine hK.out _ _ (hHeld.next ((Below.refl _ V).alloc (Nat.le_refl _) _)) (fun hHeld2 => ?_)
  clear hK K
  try simp only [Act.put, sA, s0, s1]
  clear hHeld
  have hHeld := hHeld2
  clear hHeld2
  have ho0 := own_u8 V 2 (by omega)
  have hal : Below V.heap.size V (V.alloc (.cells #[.int .u8 2] 5)) := (Below.refl _ V).alloc (Nat.le_refl _) _
  have hVa : V.heap.size ≤ V.heap.size := Nat.le_refl _
  generalize hA1 : World.alloc V _ = A1 at *
  refine tO 5 rfl (fun K hK => ?_)
  go_simp
  go_at_call 207
  refine (hnum.out A1).mono ?_
  rintro e W5 ⟨v2, rfl, h2, hb5⟩
  refine hK.out _ _ (hHeld.next hb5) (fun hHeld2 => ?_)
  clear hK K
  try simp only [Act.put, sA, s0, s1]
  clear hHeld
  have hHeld := hHeld2
  clear hHeld2
  have h1 : OwnY V.heap.size W5 _ [2] := ho0.below hb5
  have hbB : V.heap.size ≤ W5.heap.size := Nat.le_trans hal.size hb5.size
  have hbV : Below V.heap.size V W5 := hal.trans (hb5.mono hal.size)
  have hVB : V.heap.size ≤ V.heap.size := Nat.le_refl _
  have hBs : Hid (w.heap.size ≤ V.heap.size) := hh0.2.size
  obtain ⟨v3, w3, hr3, ho3, hb3⟩ := append_own h1 hbB hbV h2 (by simp; omega)
  obtain ⟨v4, w4, hr4, ho4, hb4⟩ := append_strY (s := s) ho3 (Nat.le_trans hVB hb3.size) hb3 (by simp; omega)
  have hT3 : TxW w g s w3 := hh0.next hb3
  have hT4 : TxW w g s w4 := hh0.next hb4
  refine tO 6 rfl (fun K hK => ?_)
  refine wp_append_run rfl _ _ rfl rfl (hr3 _) ?_
  refine hK.out _ _ hT3 (fun hHeld2 => ?_)
  clear hK K
  try simp only [Act.put, sA, s0, s1]
  clear hHeld
  have hHeld := hT3
  refine tO 9 rfl (fun K hK => ?_)
  refine wp_append_run rfl _ _ rfl rfl (hr4 _) ?_
  refine hK.out _ _ hT4 (fun hHeld2 => ?_)
  clear hK K
  try simp only [Act.put, sA, s0, s1]
  clear hHeld
  have hHeld := hT4
  refine tQ 10 rfl hHeld ?_
  refine wpAnyH_done (by kernel_rfl) ?_ _
  have hend : Hid (X (.returned v4) w4) := hfin.out _ _ (by
   refine ⟨⟨?_, ho4.2⟩, hHeld.2⟩
   have := ho4.1
   rw [List.append_assoc] at this
   exact Sl.owns_mono this hBs.out) hHeld.2
  clear hHeld
  go_wp2_with fail
  exact hend.out
 case refine_2 =>
  go_simp
  go_at_call 207
  refine (hnum.out V).mono ?_
  rintro e W5 ⟨v2, rfl, h20, hb5⟩
  refine hK.out _ _ (hHeld.next hb5) (fun hHeld2 => ?_)
  clear hK K
  try simp only [Act.put, sA, s0, s1]
  clear hHeld
  have hHeld := hHeld2
  clear hHeld2
  refine tO 0 rfl (fun K hK => ?_)
  go_simp
  refine hK.out _ _ (hHeld.next ((Below.refl _ W5).alloc (Nat.le_refl _) _)) (fun hHeld2 => ?_)
  clear hK K
  try simp only [Act.put, sA, s0, s1]
  clear hHeld
  have hHeld := hHeld2
  clear hHeld2
  have h1 := own_u8 W5 2 (by omega)
  have hal : Below W5.heap.size W5 (W5.alloc (.cells #[.int .u8 2] 5)) := (Below.refl _ W5).alloc (Nat.le_refl _) _
  have h2 := h20.below hal
  have hbB : W5.heap.size ≤ (W5.alloc (.cells #[.int .u8 2] 5)).heap.size := hal.size
  have hbV : Below W5.heap.size W5 (W5.alloc (.cells #[.int .u8 2] 5)) := hal
  have hVB : W5.heap.size ≤ W5.heap.size := Nat.le_refl _
  have hBs : Hid (w.heap.size ≤ W5.heap.size) := Nat.le_trans hh0.2.size hb5.size
  replace hh0 := hh0.next hb5
  generalize hA1 : World.alloc W5 _ = A1 at *
  obtain ⟨v3, w3, hr3, ho3, hb3⟩ := append_own h1 hbB hbV h2 (by simp; omega)
  obtain ⟨v4, w4, hr4, ho4, hb4⟩ := append_strY (s := s) ho3 (Nat.le_trans hVB hb3.size) hb3 (by simp; omega)
  have hT3 : TxW w g s w3 := hh0.next hb3
  have hT4 : TxW w g s w4 := hh0.next hb4
  refine tO 6 rfl (fun K hK => ?_)
  refine wp_append_run rfl _ _ rfl rfl (hr3 _) ?_
  refine hK.out _ _ hT3 (fun hHeld2 => ?_)
  clear hK K
  try simp only [Act.put, sA, s0, s1]
  clear hHeld
  have hHeld := hT3
  refine tO 9 rfl (fun K hK => ?_)
  refine wp_append_run rfl _ _ rfl rfl (hr4 _) ?_
  refine hK.out _ _ hT4 (fun hHeld2 => ?_)
  clear hK K
  try simp only [Act.put, sA, s0, s1]
  clear hHeld
  have hHeld := hT4
  refine tQ 10 rfl hHeld ?_
  refine wpAnyH_done (by kernel_rfl) ?_ _
  have hend : Hid (X (.returned v4) w4) := hfin.out _ _ (by
   refine ⟨⟨?_, ho4.2⟩, hHeld.2⟩
   have := ho4.1
   rw [List.append_assoc] at this
   exact Sl.owns_mono this hBs.out) hHeld.2
  clear hHeld
  go_wp2_with fail
  exact hend.out
end Go.Proofs.YtnonfdcbnkdmcaaGreatDoor
namespace Go.Proofs.YtnonfdcbnkdmcaaGreatDoor
open Go.RowKit Go.Mem
open Go.Sto (Ent Lg St)

theorem r1encF_any (x : FV) (hx : FVok x) (w : World) : Calls Tryz.prog 180 #[.agg (fvC x).toArray] w (OwnP (encF x) w) := by
 cases x with
 | int n => exact r1encI_any n hx w
 | text s => exact r1encT_any s hx w
set_option maxRecDepth 20000 in
set_option maxHeartbeats 2000000 in
theorem r1encL_any (b n c : Nat) (l : List FV) (hok : ∀ x ∈ l, FVok x) (w : World) (H : FS w b n c l) : Calls Tryz.prog 180 #[.agg (lsC b n c).toArray] w (OwnP (encL l) w) := by
 obtain ⟨g, hg⟩ : ∃ g, Hid (w.heap.size = g) := ⟨_, rfl⟩
 have n63 : (n : Int) ≤ 1000 := by have := H.bd; omega
 have hlen := H.len
 obtain ⟨X, hX⟩ : ∃ X, X = OwnP (encL l) w := ⟨_, rfl⟩
 have hfin : Hid (∀ v W, OwnY w.heap.size W v ([3] ++ Cod.numl n ++ ((l.take n).map encF).flatten) → Below w.heap.size w W → X (.returned v) W) := fun v W h1 h2 => by
  rw [hX]
  refine ⟨v, rfl, ?_, h2⟩
  rw [List.take_of_length_le (by omega)] at h1
  unfold encL
  rw [hlen]
  simpa using h1
 have henc : Hid (∀ k, (((l.take k).map encF).flatten).length ≤ 2000 * n) := fun k => by
  have h1 := encs_len (l.take k) (fun x hx => hok x (List.mem_of_mem_take hx))
  have h2 : (l.take k).length ≤ n := by rw [List.length_take]; omega
  exact Nat.le_trans h1 (Nat.mul_le_mul_left _ h2)
 rw [← hX]
 clear hX
 have hok' := Lib.hid hok
 have hnum := Lib.hid (fun W => r1numeral_any 9 n (by omega) (by omega) (by omega) W)
 have hnl := Lib.hid (Cod.numl_len64 (u := n) (by omega))
 have hnw : IntKind.u64.wrap (n : Int) = (n : Int) := by rw [IntKind.wrap_u64]; omega
 have hnw2 : (n : Int) % 18446744073709551616 = (n : Int) := by omega
 clear hok
 go_enter Tryz.func180, Tryz.ntmps180
 go_upto_region 1 with fail
 rw [hg.out]
 generalize hW : World.alloc w _ = W0
 have hB : Hid (Blk W0 g 169 (lsC b n c)) := by rw [← hW, ← hg.out]; exact Blk.new w _ (lsC b n c)
 have hb : Hid (Below w.heap.size w W0) := by rw [← hW]; exact (Below.refl _ w).alloc (Nat.le_refl _) _
 clear hW
 have HF := Lib.hid (H.below hb.out)
 clear H
 have hsc : Hid (∀ wz, Below W0.heap.size W0 wz → wz.cell? ⟨g, 3, none⟩ = some (.slice (some ⟨b, 0, none⟩) n c)) := fun wz h => (hB.out.below h hB.out.lt).at_ (i := 3) rfl
 have c0 : W0.cell? ⟨g, 0, none⟩ = some (.int .i64 3) := hB.out.at_ (i := 0) rfl
 have c1 : W0.cell? ⟨g, 1, none⟩ = some (.int .i64 0) := hB.out.at_ (i := 1) rfl
 have c2 : W0.cell? ⟨g, 2, none⟩ = some (.string ⟨#[]⟩) := hB.out.at_ (i := 2) rfl
 have hal : Hid (Below W0.heap.size W0 (W0.alloc (.cells #[.int .u8 3] 5))) := (Below.refl _ W0).alloc (Nat.le_refl _) _
 have ho0 := Lib.hid (own_u8 W0 3 (by omega))
 have c3 := hsc.out _ hal.out
 go_upto_region 6 with fail
 clear c0 c1 c2
 go_wp2_with fail
 refine (hnum.out _).mono ?_
 rintro e w2 ⟨v2, rfl, ho2, hb2⟩
 obtain ⟨v3, w3, hr3, ho3, hb3⟩ := append_own (ho0.out.below hb2) (Nat.le_trans hal.out.size hb2.size) (hal.out.trans (hb2.mono hal.out.size)) ho2 (by have := hnl.out; simp; omega)
 have hr3' := Lib.hid hr3; have ho3' := Lib.hid ho3; have hb3' := Lib.hid hb3
 clear hr3 ho3 hb3 ho2 hb2 hal ho0 c3 hnum
 go_upto_region 7 with (first
  | (at_builtin; refine Lib.wpList_append_run _ rfl _ _ _ _ rfl _ _ rfl rfl _ _ (hr3'.out _) ?_))
 clear hr3'
 go_wp2_with fail
 go_loopw [3, 4] (fun v i wr => ∃ k : Nat, k ≤ n ∧ i = .int .i64 (k : Int) ∧ Hid (OwnY W0.heap.size wr v ([3] ++ Cod.numl n ++ ((l.take k).map encF).flatten)) ∧ Hid (Below W0.heap.size W0 wr)) (fun _ i _ => n - (intOf i).toNat)
 case atStart => exact ⟨0, Nat.zero_le _, rfl, by show OwnY _ _ _ _; simpa using ho3'.out, hb3'⟩
 case round =>
  obtain ⟨k, hk, rfl, ho9, hb9⟩ := hrel
  have s3 := hsc.out wr hb9.out
  by_cases hlt : k < n
  · clear s3 ho3' hb3'
    obtain ⟨x, hx⟩ : ∃ x, l[k]? = some x := ⟨_, List.getElem?_eq_getElem (by omega)⟩
    obtain ⟨xk, xn, xs, hxf⟩ := fvC_form x
    have hr0 := ((HF.out.below hb9.out).row hx) 0 (.int .i64 xk) (by rw [hxf]; rfl)
    have hr1 := ((HF.out.below hb9.out).row hx) 1 (.int .i64 xn) (by rw [hxf]; rfl)
    have hr2 := ((HF.out.below hb9.out).row hx) 2 (.string xs) (by rw [hxf]; rfl)
    have hr3 := ((HF.out.below hb9.out).row hx) 3 (.slice none 0 0) (by rw [hxf]; rfl)
    rw [Nat.add_zero] at hr0
    have k0 : (0 : Int) ≤ (k : Int) := by omega
    have k1 : (k : Int) < (n : Int) := by omega
    have s3 := hsc.out wr hb9.out
    have hfm := r1encF_any x (hok'.out x (List.mem_of_getElem? hx)) wr
    rw [hxf] at hfm
    have hfm' := Lib.hid hfm
    have hxt : Hid (((l.take (k + 1)).map encF).flatten = ((l.take k).map encF).flatten ++ encF x) := by
     show _ = _
     rw [List.take_add_one, hx]
     simp
    clear hfm hx hxf
    go_wp2_with fail
    refine hfm'.out.mono ?_
    rintro e w4 ⟨v4, rfl, ho4, hb4⟩
    obtain ⟨v5, w5, hr5, ho5, hb5⟩ := append_own (ho9.out.below hb4) (Nat.le_trans hb9.out.size hb4.size) (hb9.out.trans (hb4.mono hb9.out.size)) ho4 (by
     have h1 := henc.out (k + 1)
     rw [hxt.out, List.length_append] at h1
     have := hnl.out
     simp only [List.length_append, List.length_singleton]
     omega)
    have hr5' := Lib.hid hr5
    have hb5' := Lib.hid hb5
    have ho5' : Hid (OwnY W0.heap.size w5 v5 ([3] ++ Cod.numl n ++ ((l.take (k + 1)).map encF).flatten)) := by
     show OwnY _ _ _ _
     rw [hxt.out, ← List.append_assoc]
     exact ho5
    clear hr5 hb5 ho5 ho4 hb4 hr0 hr1 hr2 hr3 s3 hfm' ho9 hb9 hxt
    go_wp2_with (first
     | (at_builtin; refine Lib.wpList_append_run _ rfl _ _ _ _ rfl _ _ rfl rfl _ _ (hr5'.out _) ?_))
    go_roundw
    case rel => exact ⟨k + 1, by omega, by go_num, ho5', hb5'⟩
    case measure => simp [intOf]; omega
  · obtain rfl : k = n := by omega
    have hend := Lib.hid (hfin.out _ wr ⟨Sl.owns_mono ho9.out.1 hb.out.size, ho9.out.2⟩ (hb.out.trans (hb9.out.mono hb.out.size)))
    go_wp2_with fail
    exact hend.out
def EncY (xs : List Nat) (w : World) (e : Ending) (w' : World) : Prop := ∃ v, e = .returned (.tuple #[v, .int .i64 0]) ∧ OwnY w.heap.size w' v xs ∧ Below w.heap.size w w'
set_option maxRecDepth 20000 in
set_option maxHeartbeats 1000000 in
theorem r1Encode_any (b n c : Nat) (l : List FV) (hok : ∀ x ∈ l, FVok x) (w : World) (H : FS w b n c l) : Calls Tryz.prog 142 #[.agg (lsC b n c).toArray] w (EncY (encL l) w) := by
 obtain ⟨g, hg⟩ : ∃ g, Hid (w.heap.size = g) := ⟨_, rfl⟩
 have n63 : (n : Int) ≤ 1000 := by have := H.bd; omega
 have hlen := H.len
 obtain ⟨X, hX⟩ : ∃ X, X = EncY (encL l) w := ⟨_, rfl⟩
 have hfin : Hid (∀ v W, OwnY w.heap.size W v (encL l) → Below w.heap.size w W → X (.returned (.tuple #[v, .int .i64 0])) W) := fun v W h1 h2 => by rw [hX]; exact ⟨v, rfl, h1, h2⟩
 rw [← hX]
 clear hX
 go_enter Tryz.func142, Tryz.ntmps142
 go_upto_region 1 with fail
 rw [hg.out]
 generalize hW : World.alloc w _ = W0
 have hB : Hid (Blk W0 g 169 (lsC b n c)) := by rw [← hW, ← hg.out]; exact Blk.new w _ (lsC b n c)
 have hb : Hid (Below w.heap.size w W0) := by rw [← hW]; exact (Below.refl _ w).alloc (Nat.le_refl _) _
 clear hW
 have HF := Lib.hid (H.below hb.out)
 clear H
 have hsc : Hid (∀ wz, Below W0.heap.size W0 wz → wz.cell? ⟨g, 3, none⟩ = some (.slice (some ⟨b, 0, none⟩) n c)) := fun wz h => (hB.out.below h hB.out.lt).at_ (i := 3) rfl
 have c0 : W0.cell? ⟨g, 0, none⟩ = some (.int .i64 3) := hB.out.at_ (i := 0) rfl
 have c1 : W0.cell? ⟨g, 1, none⟩ = some (.int .i64 0) := hB.out.at_ (i := 1) rfl
 have c2 : W0.cell? ⟨g, 2, none⟩ = some (.string ⟨#[]⟩) := hB.out.at_ (i := 2) rfl
 have c3 := hsc.out W0 (Below.refl _ _)
 go_wp2_with fail
 refine (r1checkL_any b n c l W0 HF.out).mono ?_
 rintro e w1 ⟨rfl, hb1⟩
 clear c0 c1 c2 c3
 have c0 : w1.cell? ⟨g, 0, none⟩ = some (.int .i64 3) := (hB.out.below hb1 hB.out.lt).at_ (i := 0) rfl
 have c1 : w1.cell? ⟨g, 1, none⟩ = some (.int .i64 0) := (hB.out.below hb1 hB.out.lt).at_ (i := 1) rfl
 have c2 : w1.cell? ⟨g, 2, none⟩ = some (.string ⟨#[]⟩) := (hB.out.below hb1 hB.out.lt).at_ (i := 2) rfl
 have c3 := hsc.out w1 hb1
 have hb1' := Lib.hid (hb.out.trans (hb1.mono hb.out.size))
 have hF1 := Lib.hid (HF.out.below hb1)
 clear hb1
 go_wp2_with fail
 refine (r1encL_any b n c l hok w1 hF1.out).mono ?_
 rintro e w2 ⟨v2, rfl, ho2, hb2⟩
 have hend := Lib.hid (hfin.out v2 w2 ⟨Sl.owns_mono ho2.1 hb1'.out.size, ho2.2⟩ (hb1'.out.trans (hb2.mono hb1'.out.size)))
 clear c0 c1 c2 c3 hb2 hb1' ho2
 go_wp2_with fail
 exact hend.out
set_option maxRecDepth 20000 in
set_option maxHeartbeats 4000000 in
theorem r30msg_any (st fo no R S : Int) (D : List Nat) (hst : I64 st) (hfo : I64 fo) (hno : I64 no) (hD : D.length = 32 ∧ ∀ u ∈ D, u < 256) (w : World) :
 Calls Tryz.prog 90 #[.agg (headC st fo no D R S).toArray] w (MsgPost (headD st fo no D) w) := by
 obtain ⟨tb, htb⟩ : ∃ tb, Hid (w.heap.size = tb) := ⟨_, rfl⟩
 have hS := MsgS.box w tb htb.out st fo no D R S
 have hsl := fun W => slice_at3 W tb
 have hok : Hid (∀ x ∈ [FV.int st, .int fo, .int no, .text (txtD D)], FVok x) := fun x hx => by
  simp only [List.mem_cons, List.not_mem_nil, or_false] at hx
  rcases hx with rfl | rfl | rfl | rfl
  · exact hst
  · exact hfo
  · exact hno
  · show (txtD D).size ≤ 1000
    rw [txtD_len, hD.1]; omega
 have hcv := fun W h => dig_text D hD.1 tb W h
 have hhd : Hid (Sha.tagged (octets ⟨#[104, 101, 97, 100]⟩) (encL [.int st, .int fo, .int no, .text (txtD D)]) = headD st fo no D) := rfl
 have henc : Hid (∀ x ∈ encL [FV.int st, .int fo, .int no, .text (txtD D)], x < 256) := encL_lt _
 have hel : Hid ((encL [FV.int st, .int fo, .int no, .text (txtD D)]).length ≤ 10000) := by
  have h1 := encs_len _ hok.out
  have h2 := Cod.numl_len64 (u := 0 + 1 + 1 + 1 + 1) (by omega)
  show (encL _).length ≤ 10000
  simp only [encL, List.length_cons, List.length_append, List.length_nil] at h1 h2 ⊢
  omega
 obtain ⟨T, hT⟩ : ∃ T, Hid (txtD D = T) := ⟨_, rfl⟩
 rw [hT.out] at hok hcv hhd henc hel
 have hM : Hid ((headD st fo no D).length = 32) := Sha.tagged_length _ _
 generalize headD st fo no D = M at *
 have hm1 : Hid (∀ (n : Int) (W : World), Calls Tryz.prog 144 #[.int .i64 n] W (fun e w' => e = .returned (.agg #[.int .i64 1, .int .i64 n, .string ⟨#[]⟩, .slice none 0 0]) ∧ Below W.heap.size W w')) := fun n W => r1int_any n W
 have hm2 : Hid (∀ (s : ByteArray) (W : World), Calls Tryz.prog 145 #[.string s] W (fun e w' => e = .returned (.agg #[.int .i64 2, .int .i64 0, .string s, .slice none 0 0]) ∧ Below W.heap.size W w')) := fun s W => r1text_any s W
 have hm3 : Hid (∀ (b n c : Nat) (W : World), Calls Tryz.prog 143 #[.slice (some ⟨b, 0, none⟩) n c] W (fun e w' => e = .returned (.agg #[.int .i64 3, .int .i64 0, .string ⟨#[]⟩, .slice (some ⟨b, 0, none⟩) n c]) ∧ Below W.heap.size W w')) := fun b n c W => r1list_any b n c W
 have hen : Hid (∀ (b n c : Nat) (l : List FV) (_ : ∀ x ∈ l, FVok x) (W : World) (_ : FS W b n c l), Calls Tryz.prog 142 #[.agg #[.int .i64 3, .int .i64 0, .string ⟨#[]⟩, .slice (some ⟨b, 0, none⟩) n c]] W (EncY (encL l) W)) := fun b n c l h W H => r1Encode_any b n c l h W H
 obtain ⟨r, hr⟩ : ∃ r, Hid (headC st fo no D R S = r) := ⟨_, rfl⟩
 have hone : ∀ u ∈ r, u.oneCell' = true := by
  rw [← hr.out]; unfold headC
  intro u hu
  rcases List.mem_append.1 hu with h | h
  · simp only [List.mem_cons, List.not_mem_nil, or_false] at h
    rcases h with rfl | rfl | rfl <;> rfl
  · rcases List.mem_append.1 h with h | h
    · exact bv_one D u h
    · simp only [List.mem_cons, List.not_mem_nil, or_false] at h
      rcases h with rfl | rfl <;> rfl
 rw [hr.out] at hS ⊢
 clear hT hr hst hfo hno hD
 go_enter Tryz.func90, Tryz.ntmps90
 go_wp2_with fail
 rw [htb.out]
 generalize w.alloc (.cells r.toArray 36) = w1 at *
 clear hone
 go_region_held3 (fun wz => wz.cell? ⟨tb, 0, none⟩ = some (.int .i64 st) ∧ wz.cell? ⟨tb, 1, none⟩ = some (.int .i64 fo) ∧ wz.cell? ⟨tb, 2, none⟩ = some (.int .i64 no) ∧ wz.rangeAt tb 3 (bv D) ∧ tb < wz.heap.size ∧ Below w.heap.size w wz) (repeat (first | assumption | apply MsgS.drewB | apply MsgS.allocB))
  (first
    | (go_at_call 144; refine (hm1.out _ _).mono ?_; rintro e wq ⟨rfl, hbq⟩; have hsq := MsgS.nextB hbq (by assumption))
     | (go_at_call 145; refine (hm2.out _ _).mono ?_; rintro e wq ⟨rfl, hbq⟩; have hsq := MsgS.nextB hbq (by assumption))
     | (go_at_call 143; refine (hm3.out _ _ _ _).mono ?_; rintro e wq ⟨rfl, hbq⟩; have hfs := FS.below (n := 4) (c := 4) (l := [.int st, .int fo, .int no, .text T]) ⟨Blk.new _ _ _, rfl, Nat.le_refl _, by omega, by omega⟩ hbq; have hsq := MsgS.nextB hbq (by assumption))
     | (go_at_call 142; refine (hen.out _ 4 4 [.int st, .int fo, .int no, .text T] hok.out _ hfs).mono ?_; rintro e wq ⟨v5, rfl, ho5, hbq⟩; have hsq := MsgS.nextB hbq (by assumption)))
 obtain ⟨a5, c5, rfl, hB5⟩ := BS.own ho5.1 henc.out
 have hb5 := Lib.hid hsq.2.2.2.2.2
 have hB5' := Lib.hid hB5
 have hel' := hel.out
 clear hB5 ho5 hsq hS hbq hm1 hm2 hm3 hen hok hcv hsl henc
 go_wp2_with fail
 refine (r2tagged_any ⟨#[104, 101, 97, 100]⟩ (by decide) _ _ _ _ _ (bw_of hB5'.out) (by omega)).mono ?_
 rintro e w8 ⟨rfl, hb8⟩
 have hb9 := Lib.hid (hb5.out.trans (hb8.mono hb5.out.size))
 rw [hhd.out]
 obtain ⟨W9, hP⟩ := put_dig (x := M) (Blk.new w8 32 (bv (List.replicate 32 0))) (by simp) hM.out
 have hbl : Hid (Blk W9 w8.heap.size 32 (bv M)) := hP.blk
 have hb10 : Hid (Below w.heap.size w W9) := below_grown (hb9.out.alloc hb9.out.size _) hP.grown (Nat.le_trans hb9.out.size (by simp)) hb9.out.size
 have s1 := fun W => slice_all W w8.heap.size
 obtain ⟨RES, hRES⟩ : ∃ RES, Hid (bv M = RES) := ⟨_, rfl⟩
 rw [hRES.out] at hP ⊢
 have hP' := Lib.hid hP
 clear hP hb8 hB5' hel hel' hhd hb9
 go_wp2_with (first
  | (refine wpList_store_mid (by rfl) 32 (.tmp 5) (.tmp 26) (by rfl) w8.heap.size 0 RES.toArray (by rfl) (by rfl) hP'.out.there hP'.out.info (by simpa using hP'.out.one) ?_
     generalize hW9 : World.setCells _ _ _ _ = Wa
     obtain rfl : W9 = Wa := by rw [← hW9]; exact hP'.out.eq
     clear hW9))
 go_ret
 exact ⟨_, rfl, hbl.out, hb10.out⟩
end Go.Proofs.YtnonfdcbnkdmcaaGreatDoor

