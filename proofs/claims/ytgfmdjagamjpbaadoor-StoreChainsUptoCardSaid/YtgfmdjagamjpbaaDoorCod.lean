/- codec: numeral, unsigned -/
import Derived.Test.YtgfmdjagamjpbaaDoorEnt
import Derived.Test.YtgfmdjagamjpbaaDoorSgn3
import Derived.Test.YtgfmdjagamjpbaaDoorChk
import Derived.Maps.AppendAt
namespace Go.Cod
/-- the digits of a number. -/
def numl (u : Nat) : List Nat := if u < 128 then [u] else (u % 128 + 128) :: numl (u / 128)
termination_by u
decreasing_by omega
theorem numl_small {u : Nat} (h : u < 128) : numl u = [u] := by rw [numl, if_pos h]
theorem numl_big {u : Nat} (h : ¬ u < 128) : numl u = (u % 128 + 128) :: numl (u / 128) := by rw [numl, if_neg h]
theorem numl_lt : ∀ u, ∀ x ∈ numl u, x < 256 := by
  intro u
  induction u using Nat.strongRecOn with
  | _ u ih =>
    intro x hx
    by_cases h : u < 128
    · rw [numl_small h] at hx; simp at hx; omega
    · rw [numl_big h] at hx
      rcases List.mem_cons.1 hx with rfl | hx
      · omega
      · exact ih (u / 128) (by omega) x hx
theorem numl_len : ∀ k u, u < 128 ^ (k + 1) → (numl u).length ≤ k + 1
  | 0, u, h => by rw [numl_small (by omega)]; simp
  | k + 1, u, h => by
    by_cases h1 : u < 128
    · rw [numl_small h1]; simp
    · rw [numl_big h1, List.length_cons]
      have : u / 128 < 128 ^ (k + 1) := by
        rw [Nat.div_lt_iff_lt_mul (by omega)]
        rw [Nat.pow_succ] at h
        omega
      have := numl_len k (u / 128) this
      omega
theorem numl_len64 {u : Nat} (h : u < 18446744073709551616) : (numl u).length ≤ 10 := numl_len 9 u (Nat.lt_of_lt_of_le h (by decide))
/-- the unsigned form of an integer. -/
def zig (n : Int) : Int := bits .xor .u64 (IntKind.u64.wrap (IntKind.u64.wrap n * 2)) (IntKind.u64.wrap (n / 9223372036854775808))
end Go.Cod

namespace Go.Proofs.YtgfmdjagamjpbaaDoor
open Go.RowKit Go.Mem

theorem or128 : ∀ x : Nat, x < 256 → bits .or .u8 (x : Int) 128 = ((x % 128 + 128 : Nat) : Int) := by decide +kernel

/-- v' is what came of v: old blocks other than v's own row are as they were; v' lies in v's row or in a new block. -/
def Grw (w : World) (v : Value) (w' : World) (v' : Value) : Prop := w.grownBy w' v.ownBlock ∧ ∀ k, v'.ownBlock = some k → v.ownBlock = some k ∨ w.heap.size ≤ k
theorem Grw.refl (w : World) (v : Value) : Grw w v w v := ⟨World.grownBy.refl w _, fun _ h => .inl h⟩
theorem Grw.trans {w w1 w2 : World} {v v1 v2 : Value} (h : Grw w v w1 v1) (h' : Grw w1 v1 w2 v2) : Grw w v w2 v2 :=
  ⟨⟨h'.1.os.trans h.1.os, h'.1.tape.trans h.1.tape, h'.1.output.trans h.1.output, Nat.le_trans h.1.size h'.1.size, fun k hk hne => (h'.1.block k (Nat.lt_of_lt_of_le hk h.1.size) (fun e => by
    rcases h.2 k e.symm with h2 | h2
    · exact hne h2.symm
    · omega)).trans (h.1.block k hk hne)⟩, fun k hk => by
    rcases h'.2 k hk with h2 | h2
    · exact h.2 k h2
    · exact .inr (Nat.le_trans h.1.size h2)⟩
theorem Grw.quiet {w w1 w2 : World} {v v1 : Value} (h : Grw w v w1 v1) (hb : Below w1.heap.size w1 w2) : Grw w v w2 v1 := h.trans ⟨⟨hb.os, hb.tape, hb.output, hb.size, fun k hk _ => hb.block k hk⟩, fun _ h => .inl h⟩
theorem Grw.app {w w1 : World} {v v' : Value} (o : Obj) (hg : (w.alloc o).grownBy w1 v.ownBlock) (hat : v'.ownBlock = v.ownBlock ∨ v'.ownBlock = some (w.alloc o).heap.size) : Grw w v w1 v' :=
  ⟨⟨hg.os, hg.tape, hg.output, Nat.le_trans (by simp) hg.size, fun k hk hne => (hg.block k (by simp; omega) hne).trans (Below.heap_alloc w o k hk)⟩, fun k hk => by
    rcases hat with h | h
    · exact .inl (h ▸ hk)
    · rw [h] at hk; cases hk; exact .inr (by simp)⟩
/-- a block that is not v's row is kept. -/
theorem Grw.blk {w w' : World} {v v' : Value} (h : Grw w v w' v') {b : Nat} {t : TypeId} {cs : List Value} (hB : Blk w b t cs) (hv : ∀ k, v.ownBlock = some k → b ≠ k) : Blk w' b t cs := hB.grown h.1 (fun e => hv b e.symm rfl)
/-- .. and it is not the new row either. -/
theorem Grw.apart {w w' : World} {v v' : Value} (h : Grw w v w' v') {b : Nat} (hb : b < w.heap.size) (hv : ∀ k, v.ownBlock = some k → b ≠ k) : ∀ k, v'.ownBlock = some k → b ≠ k := fun k hk => by
  rcases h.2 k hk with h2 | h2
  · exact hv k h2
  · omega
def OwnsG (B : Nat) (v : Value) (n : Nat) (xs : List Nat) (w : World) (e : Ending) (w' : World) : Prop := ∃ v', e = .returned v' ∧ w'.ownsRow B 5 1 v' n (bv xs) ∧ Grw w v w' v'

theorem infoB : (Tryd.prog.info? 5).map (fun i => (i.zero, i.size, i.bytes)) = some (some (.int .u8 0), 1, 1) := by kernel_rfl

set_option maxRecDepth 20000 in
set_option maxHeartbeats 1000000 in
theorem numeral_any (B : Nat) (v : Value) (n u : Nat) (xs : List Nat) (hu : u < 18446744073709551616) (w : World) (hown : w.ownsRow B 5 1 v n (bv xs)) (hB : B ≤ w.heap.size) (hn : n ≤ 1000000000) :
    Calls Tryd.prog 65 #[v, .int .u64 (u : Int)] w (OwnsG B v (n + (Cod.numl u).length) (xs ++ Cod.numl u) w) := by
  obtain ⟨i0, hi, hz0, hz1, hz2⟩ := info_parts infoB
  have hlen := Cod.numl_len64 hu
  have hown' := Lib.hid hown
  clear hown
  go_enter Tryd.func65, Tryd.ntmps65
  go_wp2_with fail
  go_loopw [0, 1] (fun vb uv wr => ∃ (m y : Nat) (ys : List Nat), uv = .int .u64 (y : Int) ∧ y ≤ u ∧ m + (Cod.numl y).length = n + (Cod.numl u).length ∧ Hid (wr.ownsRow B 5 1 vb m (bv ys)) ∧ Hid (ys ++ Cod.numl y = xs ++ Cod.numl u) ∧ Hid (Grw w v wr vb) ∧ B ≤ wr.heap.size) (fun _ uv _ => (intOf uv).toNat)
  case atStart => exact ⟨n, u, xs, rfl, Nat.le_refl _, rfl, hown', rfl, Grw.refl _ _, hB⟩
  case round =>
    obtain ⟨m, y, ys, rfl, hy, hm, ho, hx, hb, hBr⟩ := hrel
    by_cases hlt : y < 128
    · have hx' := hx.out
      rw [Cod.numl_small hlt] at hx' hm
      have hlt' : (y : Int) < 128 := by omega
      have hge : decide ((128 : Int) ≤ (y : Int)) = false := decide_eq_false (by omega)
      have hmod : (y : Int) % 256 = (y : Int) := by omega
      simp only [List.length_singleton] at hm
      have hx2 := Lib.hid hx'
      clear hx hx'
      go_wp2_with (at_builtin; refine wpList_append_own_at _ rfl _ _ 46 rfl B 5 i0 (.int .u8 0) 1 1 Tryd.underlying46 hi hz0 hz1 hz2 rfl (by decide) _ m (bv ys) rfl (ho.out.alloc _) ⟨wr.heap.size, 0, none⟩ 1 1 [.int .u8 (y : Int)] rfl rfl (cell_one_new _ _ _) (bv_one [y]) (by unfold maxLen; omega) (by omega) (by simp; omega) ?_; intro v' w1 hown1 hgrow _ hat)
      go_ret
      refine ⟨v', rfl, ?_, hb.out.trans (Grw.app _ hgrow hat)⟩
      rw [← hx2.out, ← hm, bv_append]
      exact hown1
    · have hx' := hx.out
      rw [Cod.numl_big hlt] at hx' hm
      rw [List.length_cons] at hm
      have hge : decide ((128 : Int) ≤ (y : Int)) = true := decide_eq_true (by omega)
      have hor : bits .or .u8 ((y : Int) % 256) 128 = ((y % 128 + 128 : Nat) : Int) := by
        have := or128 (y % 256) (by omega)
        rw [show ((y % 256 : Nat) : Int) = (y : Int) % 256 by omega, show y % 256 % 128 = y % 128 by omega] at this
        exact this
      obtain ⟨z, hz⟩ : ∃ z, Hid (y % 128 + 128 = z) := ⟨_, rfl⟩
      rw [hz.out] at hor hx'
      have hx2 : Hid ((ys ++ [z]) ++ Cod.numl (y / 128) = xs ++ Cod.numl u) := by show _ = _; rw [← hx']; simp
      have hy64 : (y : Int) < 18446744073709551616 := by omega
      have hy0 : (0 : Int) ≤ (y : Int) := by omega
      clear hx hx'
      go_wp2_with (at_builtin; refine wpList_append_own_at _ rfl _ _ 46 rfl B 5 i0 (.int .u8 0) 1 1 Tryd.underlying46 hi hz0 hz1 hz2 rfl (by decide) _ m (bv ys) rfl (ho.out.alloc _) ⟨wr.heap.size, 0, none⟩ 1 1 [.int .u8 (z : Int)] rfl rfl (cell_one_new _ _ _) (bv_one [z]) (by unfold maxLen; omega) (by omega) (by simp; omega) ?_; intro v' w1 hown1 hgrow _ hat)
      have hown2 : Hid (w1.ownsRow B 5 1 v' (m + 1) (bv (ys ++ [z]))) := by show World.ownsRow _ _ _ _ _ _ _; rw [bv_append]; exact hown1
      have hb2 : Hid (Grw w v w1 v') := hb.out.trans (Grw.app _ hgrow hat)
      have hs2 : B ≤ w1.heap.size := Nat.le_trans hBr (Nat.le_trans (by simp) hgrow.size)
      have hyy : (y : Int) / 128 = ((y / 128 : Nat) : Int) := by omega
      go_roundw
      case rel => exact ⟨m + 1, y / 128, ys ++ [z], by first | rfl | simp, by omega, by omega, hown2, hx2, hb2, hs2⟩
      case measure => simp [intOf]; omega

def zigN (n : Int) : Nat := (Cod.zig n).toNat
theorem zigN_eq (n : Int) : Cod.zig n = (zigN n : Int) ∧ zigN n < 18446744073709551616 := by
  have h := wf_bits .xor .u64 (IntKind.u64.wrap (IntKind.u64.wrap n * 2)) (IntKind.u64.wrap (n / 9223372036854775808))
  have h1 : 0 ≤ Cod.zig n ∧ Cod.zig n < 18446744073709551616 := by
    unfold Cod.zig
    simp [Lit.wf, IntKind.min, IntKind.max, IntKind.signed, IntKind.bits] at h
    omega
  unfold zigN
  omega

set_option maxHeartbeats 400000 in
theorem unsigned_any (n : Int) (hn : I64 n) (w : World) : Calls Tryd.prog 66 #[.int .i64 n] w (fun e w' => e = .returned (.int .u64 (zigN n : Int)) ∧ w' = w) := by
  have hz := Lib.hid (zigN_eq n).1
  obtain ⟨n0, n1⟩ := hn
  go_enter Tryd.func66, Tryd.ntmps66
  go_wp2_with fail
  go_ret
  exact ⟨by rw [← hz.out]; rfl, rfl⟩

/-! ### values without lists -/
inductive FV where
  | int (n : Int)
  | text (s : ByteArray)
def fvC : FV → List Value
  | .int n => [.int .i64 1, .int .i64 n, .string ⟨#[]⟩, .slice none 0 0]
  | .text s => [.int .i64 2, .int .i64 0, .string s, .slice none 0 0]
/-- what a value is written as. -/
def encF : FV → List Nat
  | .int n => 1 :: Cod.numl (zigN n)
  | .text s => 2 :: (Cod.numl s.size ++ octets s)
def encL (l : List FV) : List Nat := 3 :: (Cod.numl l.length ++ (l.map encF).flatten)

set_option maxRecDepth 20000 in
set_option maxHeartbeats 1000000 in
theorem formedI_any (n : Int) (w : World) : Calls Tryd.prog 63 #[.agg #[.int .i64 1, .int .i64 n, .string ⟨#[]⟩, .slice none 0 0]] w fun e w' => e = .returned (.tuple #[.int .i64 0, .bool true]) ∧ Below w.heap.size w w' := by
  by_cases h0 : n = 0
  · subst h0
    go_enter Tryd.func63, Tryd.ntmps63
    go_wp2_with fail
    go_ret2
    exact ⟨rfl, ((Below.refl _ w).alloc (Nat.le_refl _) _).alloc (by simp) _⟩
  · have hn : (n == 0) = false := by simpa using h0
    go_enter Tryd.func63, Tryd.ntmps63
    go_wp2_with fail
    go_ret2
    exact ⟨rfl, ((Below.refl _ w).alloc (Nat.le_refl _) _).alloc (by simp) _⟩

set_option maxRecDepth 20000 in
set_option maxHeartbeats 1000000 in
theorem formedT_any (s : ByteArray) (w : World) : Calls Tryd.prog 63 #[.agg #[.int .i64 2, .int .i64 0, .string s, .slice none 0 0]] w fun e w' => e = .returned (.tuple #[.int .i64 0, .bool true]) ∧ Below w.heap.size w w' := by
  cases hs : s.toList.isEmpty with
  | true =>
    go_enter Tryd.func63, Tryd.ntmps63
    go_wp2_with fail
    go_ret2
    exact ⟨rfl, ((Below.refl _ w).alloc (Nat.le_refl _) _).alloc (by simp) _⟩
  | false =>
    go_enter Tryd.func63, Tryd.ntmps63
    go_wp2_with fail
    go_ret2
    exact ⟨rfl, ((Below.refl _ w).alloc (Nat.le_refl _) _).alloc (by simp) _⟩

theorem formedF_any (x : FV) (w : World) : Calls Tryd.prog 63 #[.agg (fvC x).toArray] w fun e w' => e = .returned (.tuple #[.int .i64 0, .bool true]) ∧ Below w.heap.size w w' := by
  cases x with
  | int n => exact formedI_any n w
  | text s => exact formedT_any s w

/-- a slice of such values in memory. -/
structure FS (w : World) (b n c : Nat) (l : List FV) : Prop where
  blk : Blk w b 67 (l.map fvC).flatten
  len : l.length = n
  le : n ≤ c
  bd : n ≤ 1000
  max : c ≤ 9223372036854775807
theorem FS.below {w w' : World} {b n c : Nat} {l : List FV} (h : FS w b n c l) (hb : Below w.heap.size w w') : FS w' b n c l := ⟨h.blk.below hb h.blk.lt, h.len, h.le, h.bd, h.max⟩
theorem fvC_len (x : FV) : (fvC x).length = 4 := by cases x <;> rfl
theorem FS.row {w : World} {b n c : Nat} {l : List FV} (h : FS w b n c l) {k : Nat} {x : FV} (hx : l[k]? = some x) : ∀ (j : Nat) u, (fvC x)[j]? = some u → w.cell? ⟨b, k * 4 + j, none⟩ = some u := fun j u hu =>
  h.blk.at_ (flat_get (rows := l.map fvC) (s := 4) (by simp [fvC_len]) (by rw [List.getElem?_map, hx]; rfl) hu)

set_option maxRecDepth 20000 in
set_option maxHeartbeats 2000000 in
theorem formedL_any (b n c : Nat) (l : List FV) (w : World) (H : FS w b n c l) : Calls Tryd.prog 63 #[.agg #[.int .i64 3, .int .i64 0, .string ⟨#[]⟩, .slice (some ⟨b, 0, none⟩) n c]] w fun e w' => e = .returned (.tuple #[.int .i64 1, .bool true]) ∧ Below w.heap.size w w' := by
  have hbd := H.bd
  have hlen := H.len
  have hle := H.le
  have hmx := H.max
  have n63 : (n : Int) ≤ 1000 := by omega
  obtain ⟨sb, hsb⟩ : ∃ sb, Hid (w.heap.size = sb) := ⟨_, rfl⟩
  have hB1 : Hid (Blk (w.alloc (.cells #[.int .i64 3, .int .i64 0, .string ⟨#[]⟩, .slice (some ⟨b, 0, none⟩) n c] 67)) sb 67 [.int .i64 3, .int .i64 0, .string ⟨#[]⟩, .slice (some ⟨b, 0, none⟩) n c]) := by rw [← hsb.out]; exact Blk.new w _ _
  go_enter Tryd.func63, Tryd.ntmps63
  go_wp2_with fail
  rw [hsb.out]
  have hb1 : ∀ o o', Below w.heap.size w ((w.alloc o).alloc o') := fun o o' => ((Below.refl _ w).alloc (Nat.le_refl _) _).alloc (by simp) _
  have hb2 := Lib.hid (hb1 (.cells #[.int .i64 3, .int .i64 0, .string ⟨#[]⟩, .slice (some ⟨b, 0, none⟩) n c] 67))
  clear hb1 hB1
  go_loopw [2, 57] (fun d i wr => ∃ k : Nat, k ≤ n ∧ d = .int .i64 0 ∧ i = .int .i64 k ∧ Hid (Below w.heap.size w wr)) (fun _ i _ => n - (intOf i).toNat)
  case atStart => exact ⟨0, Nat.zero_le _, rfl, rfl, hb2.out _⟩
  case round =>
    obtain ⟨k, hk, rfl, rfl, hb⟩ := hrel
    by_cases hlt : k < n
    · have hkl : k < l.length := by omega
      obtain ⟨x, hx⟩ : ∃ x, l[k]? = some x := ⟨_, List.getElem?_eq_getElem hkl⟩
      have hrow := (H.below hb.out).row hx
      have k0 : (0 : Int) ≤ (k : Int) := by omega
      have k1 : (k : Int) < (n : Int) := by omega
      cases x with
      | int m =>
        have d0 := hrow 0 _ rfl
        have d1 := hrow 1 _ rfl
        have d2 := hrow 2 _ rfl
        have d3 := hrow 3 _ rfl
        have hcl := Lib.hid (formedF_any (.int m))
        unfold fvC at hcl
        rw [Nat.add_zero] at d0
        clear hrow
        go_wp2_with fail
        refine (hcl.out _).mono ?_
        rintro e w2 ⟨rfl, hb2⟩
        have hb3 := Lib.hid ((hb.out.alloc hb.out.size _).trans (hb2.mono (Nat.le_trans hb.out.size (by simp))))
        clear hb2 hcl d0 d1 d2 d3
        go_wp2_with fail
        go_roundw
        case rel => exact ⟨k + 1, by omega, by go_num, by go_num, hb3⟩
        case measure => simp [intOf]; omega
      | text m =>
        have d0 := hrow 0 _ rfl
        have d1 := hrow 1 _ rfl
        have d2 := hrow 2 _ rfl
        have d3 := hrow 3 _ rfl
        have hcl := Lib.hid (formedF_any (.text m))
        unfold fvC at hcl
        rw [Nat.add_zero] at d0
        clear hrow
        go_wp2_with fail
        refine (hcl.out _).mono ?_
        rintro e w2 ⟨rfl, hb2⟩
        have hb3 := Lib.hid ((hb.out.alloc hb.out.size _).trans (hb2.mono (Nat.le_trans hb.out.size (by simp))))
        clear hb2 hcl d0 d1 d2 d3
        go_wp2_with fail
        go_roundw
        case rel => exact ⟨k + 1, by omega, by go_num, by go_num, hb3⟩
        case measure => simp [intOf]; omega
    · obtain rfl : k = n := by omega
      go_wp2_with fail
      go_ret2
      exact ⟨rfl, hb.out⟩
end Go.Proofs.YtgfmdjagamjpbaaDoor
