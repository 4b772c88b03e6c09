/- codec: numeral, unsigned codec: Check, the writer's functions codec: newWriter, the list writer, Encode store.message -/
import Derived.Test.YtnonfdcbnkdmcaaGreatDoorEnt
import Derived.Test.YtnonfdcbnkdmcaaGreatDoorSgn3
import Derived.Test.YtnonfdcbnkdmcaaGreatDoorChk
import Derived.Maps.AppendAt
import Derived.Deep.RegionLaw
import Derived.Deep.RegionHeld3
import Derived.Lib.AppendStr
import Derived.Laws.EntriesVeiled
import Derived.Laws.BytesArg
namespace Go.Cod
def numl (u : Nat) : List Nat := if u < 128 then [u] else (u % 128 + 128) :: numl (u / 128)
termination_by u
decreasing_by omega
theorem numl_small {u : Nat} (h : u < 128) : numl u = [u] := by rw [numl, if_pos h]
theorem numl_big {u : Nat} (h : ¬ u < 128) : numl u = (u % 128 + 128) :: numl (u / 128) := by rw [numl, if_neg h]
theorem numl_lt : ∀ u, ∀ x ∈ numl u, x < 256 := by
 intro u
 induction u using Nat.strongRecOn with
 | _ u ih =>
  intro x hx
  by_cases h : u < 128
  · rw [numl_small h] at hx; simp at hx; omega
  · rw [numl_big h] at hx
    rcases List.mem_cons.1 hx with rfl | hx
    · omega
    · exact ih (u / 128) (by omega) x hx
theorem numl_len : ∀ k u, u < 128 ^ (k + 1) → (numl u).length ≤ k + 1
 | 0, u, h => by rw [numl_small (by omega)]; simp
 | k + 1, u, h => by
  by_cases h1 : u < 128
  · rw [numl_small h1]; simp
  · rw [numl_big h1, List.length_cons]
    have : u / 128 < 128 ^ (k + 1) := by
     rw [Nat.div_lt_iff_lt_mul (by omega)]
     rw [Nat.pow_succ] at h
     omega
    have := numl_len k (u / 128) this
    omega
theorem numl_len64 {u : Nat} (h : u < 18446744073709551616) : (numl u).length ≤ 10 := numl_len 9 u (Nat.lt_of_lt_of_le h (by decide))
def zig (n : Int) : Int := bits .xor .u64 (IntKind.u64.wrap (IntKind.u64.wrap n * 2)) (IntKind.u64.wrap (n / 9223372036854775808))
end Go.Cod

namespace Go.Proofs.YtnonfdcbnkdmcaaGreatDoor
open Go.RowKit Go.Mem

theorem or128 : ∀ x : Nat, x < 256 → bits .or .u8 (x : Int) 128 = ((x % 128 + 128 : Nat) : Int) := by decide +kernel

def Grw (w : World) (v : Value) (w' : World) (v' : Value) : Prop := w.grownBy w' v.ownBlock ∧ ∀ k, v'.ownBlock = some k → v.ownBlock = some k ∨ w.heap.size ≤ k
theorem Grw.refl (w : World) (v : Value) : Grw w v w v := ⟨World.grownBy.refl w _, fun _ h => .inl h⟩
theorem Grw.trans {w w1 w2 : World} {v v1 v2 : Value} (h : Grw w v w1 v1) (h' : Grw w1 v1 w2 v2) : Grw w v w2 v2 :=
 ⟨⟨h'.1.os.trans h.1.os, h'.1.tape.trans h.1.tape, h'.1.output.trans h.1.output, Nat.le_trans h.1.size h'.1.size, fun k hk hne => (h'.1.block k (Nat.lt_of_lt_of_le hk h.1.size) (fun e => by
   rcases h.2 k e.symm with h2 | h2
   · exact hne h2.symm
   · omega)).trans (h.1.block k hk hne)⟩, fun k hk => by
   rcases h'.2 k hk with h2 | h2
   · exact h.2 k h2
   · exact .inr (Nat.le_trans h.1.size h2)⟩
theorem Grw.quiet {w w1 w2 : World} {v v1 : Value} (h : Grw w v w1 v1) (hb : Below w1.heap.size w1 w2) : Grw w v w2 v1 := h.trans ⟨⟨hb.os, hb.tape, hb.output, hb.size, fun k hk _ => hb.block k hk⟩, fun _ h => .inl h⟩
theorem Grw.app {w w1 : World} {v v' : Value} (o : Obj) (hg : (w.alloc o).grownBy w1 v.ownBlock) (hat : v'.ownBlock = v.ownBlock ∨ v'.ownBlock = some (w.alloc o).heap.size) : Grw w v w1 v' :=
 ⟨⟨hg.os, hg.tape, hg.output, Nat.le_trans (by simp) hg.size, fun k hk hne => (hg.block k (by simp; omega) hne).trans (Below.heap_alloc w o k hk)⟩, fun k hk => by
   rcases hat with h | h
   · exact .inl (h ▸ hk)
   · rw [h] at hk; cases hk; exact .inr (by simp)⟩
theorem Grw.blk {w w' : World} {v v' : Value} (h : Grw w v w' v') {b : Nat} {t : TypeId} {cs : List Value} (hB : Blk w b t cs) (hv : ∀ k, v.ownBlock = some k → b ≠ k) : Blk w' b t cs := hB.grown h.1 (fun e => hv b e.symm rfl)
theorem Grw.apart {w w' : World} {v v' : Value} (h : Grw w v w' v') {b : Nat} (hb : b < w.heap.size) (hv : ∀ k, v.ownBlock = some k → b ≠ k) : ∀ k, v'.ownBlock = some k → b ≠ k := fun k hk => by
 rcases h.2 k hk with h2 | h2
 · exact hv k h2
 · omega
def OwnsG (B : Nat) (v : Value) (n : Nat) (xs : List Nat) (w : World) (e : Ending) (w' : World) : Prop := ∃ v', e = .returned v' ∧ w'.ownsRow B 5 1 v' n (bv xs) ∧ Grw w v w' v'

theorem infoB : (Tryz.prog.info? 5).map (fun i => (i.zero, i.size, i.bytes)) = some (some (.int .u8 0), 1, 1) := by kernel_rfl

set_option maxRecDepth 20000 in
set_option maxHeartbeats 1000000 in
theorem numeral_any (B : Nat) (v : Value) (n u : Nat) (xs : List Nat) (hu : u < 18446744073709551616) (w : World) (hown : w.ownsRow B 5 1 v n (bv xs)) (hB : B ≤ w.heap.size) (hn : n ≤ 1000000000) :
 Calls Tryz.prog 199 #[v, .int .u64 (u : Int)] w (OwnsG B v (n + (Cod.numl u).length) (xs ++ Cod.numl u) w) := by
 obtain ⟨i0, hi, hz0, hz1, hz2⟩ := info_parts infoB
 have hlen := Cod.numl_len64 hu
 have hown' := Lib.hid hown
 clear hown
 go_enter Tryz.func199, Tryz.ntmps199
 go_wp2_with fail
 go_loopw [0, 1] (fun vb uv wr => ∃ (m y : Nat) (ys : List Nat), uv = .int .u64 (y : Int) ∧ y ≤ u ∧ m + (Cod.numl y).length = n + (Cod.numl u).length ∧ Hid (wr.ownsRow B 5 1 vb m (bv ys)) ∧ Hid (ys ++ Cod.numl y = xs ++ Cod.numl u) ∧ Hid (Grw w v wr vb) ∧ B ≤ wr.heap.size) (fun _ uv _ => (intOf uv).toNat)
 case atStart => exact ⟨n, u, xs, rfl, Nat.le_refl _, rfl, hown', rfl, Grw.refl _ _, hB⟩
 case round =>
  obtain ⟨m, y, ys, rfl, hy, hm, ho, hx, hb, hBr⟩ := hrel
  by_cases hlt : y < 128
  · have hx' := hx.out
    rw [Cod.numl_small hlt] at hx' hm
    have hlt' : (y : Int) < 128 := by omega
    have hge : decide ((128 : Int) ≤ (y : Int)) = false := decide_eq_false (by omega)
    have hmod : (y : Int) % 256 = (y : Int) := by omega
    simp only [List.length_singleton] at hm
    have hx2 := Lib.hid hx'
    clear hx hx'
    go_wp2_with (at_builtin; refine wpList_append_own_at _ rfl _ _ 71 rfl B 5 i0 (.int .u8 0) 1 1 Tryz.underlying71 hi hz0 hz1 hz2 rfl (by decide) _ m (bv ys) rfl (ho.out.alloc _) ⟨wr.heap.size, 0, none⟩ 1 1 [.int .u8 (y : Int)] rfl rfl (cell_one_new _ _ _) (bv_one [y]) (by unfold maxLen; omega) (by omega) (by simp; omega) ?_; intro v' w1 hown1 hgrow _ hat)
    go_ret
    refine ⟨v', rfl, ?_, hb.out.trans (Grw.app _ hgrow hat)⟩
    rw [← hx2.out, ← hm, bv_append]
    exact hown1
  · have hx' := hx.out
    rw [Cod.numl_big hlt] at hx' hm
    rw [List.length_cons] at hm
    have hge : decide ((128 : Int) ≤ (y : Int)) = true := decide_eq_true (by omega)
    have hor : bits .or .u8 ((y : Int) % 256) 128 = ((y % 128 + 128 : Nat) : Int) := by
     have := or128 (y % 256) (by omega)
     rw [show ((y % 256 : Nat) : Int) = (y : Int) % 256 by omega, show y % 256 % 128 = y % 128 by omega] at this
     exact this
    obtain ⟨z, hz⟩ : ∃ z, Hid (y % 128 + 128 = z) := ⟨_, rfl⟩
    rw [hz.out] at hor hx'
    have hx2 : Hid ((ys ++ [z]) ++ Cod.numl (y / 128) = xs ++ Cod.numl u) := by show _ = _; rw [← hx']; simp
    have hy64 : (y : Int) < 18446744073709551616 := by omega
    have hy0 : (0 : Int) ≤ (y : Int) := by omega
    clear hx hx'
    go_wp2_with (at_builtin; refine wpList_append_own_at _ rfl _ _ 71 rfl B 5 i0 (.int .u8 0) 1 1 Tryz.underlying71 hi hz0 hz1 hz2 rfl (by decide) _ m (bv ys) rfl (ho.out.alloc _) ⟨wr.heap.size, 0, none⟩ 1 1 [.int .u8 (z : Int)] rfl rfl (cell_one_new _ _ _) (bv_one [z]) (by unfold maxLen; omega) (by omega) (by simp; omega) ?_; intro v' w1 hown1 hgrow _ hat)
    have hown2 : Hid (w1.ownsRow B 5 1 v' (m + 1) (bv (ys ++ [z]))) := by show World.ownsRow _ _ _ _ _ _ _; rw [bv_append]; exact hown1
    have hb2 : Hid (Grw w v w1 v') := hb.out.trans (Grw.app _ hgrow hat)
    have hs2 : B ≤ w1.heap.size := Nat.le_trans hBr (Nat.le_trans (by simp) hgrow.size)
    have hyy : (y : Int) / 128 = ((y / 128 : Nat) : Int) := by omega
    go_roundw
    case rel => exact ⟨m + 1, y / 128, ys ++ [z], by first | rfl | simp, by omega, by omega, hown2, hx2, hb2, hs2⟩
    case measure => simp [intOf]; omega

def zigN (n : Int) : Nat := (Cod.zig n).toNat
theorem zigN_eq (n : Int) : Cod.zig n = (zigN n : Int) ∧ zigN n < 18446744073709551616 := by
 have h := wf_bits .xor .u64 (IntKind.u64.wrap (IntKind.u64.wrap n * 2)) (IntKind.u64.wrap (n / 9223372036854775808))
 have h1 : 0 ≤ Cod.zig n ∧ Cod.zig n < 18446744073709551616 := by
  unfold Cod.zig
  simp [Lit.wf, IntKind.min, IntKind.max, IntKind.signed, IntKind.bits] at h
  omega
 unfold zigN
 omega

set_option maxHeartbeats 400000 in
theorem unsigned_any (n : Int) (hn : I64 n) (w : World) : Calls Tryz.prog 200 #[.int .i64 n] w (fun e w' => e = .returned (.int .u64 (zigN n : Int)) ∧ w' = w) := by
 have hz := Lib.hid (zigN_eq n).1
 obtain ⟨n0, n1⟩ := hn
 go_enter Tryz.func200, Tryz.ntmps200
 go_wp2_with fail
 go_ret
 exact ⟨by rw [← hz.out]; rfl, rfl⟩

/-! ### values without lists -/
inductive FV where
 | int (n : Int)
 | text (s : ByteArray)
def fvC : FV → List Value
 | .int n => [.int .i64 1, .int .i64 n, .string ⟨#[]⟩, .slice none 0 0]
 | .text s => [.int .i64 2, .int .i64 0, .string s, .slice none 0 0]
def encF : FV → List Nat
 | .int n => 1 :: Cod.numl (zigN n)
 | .text s => 2 :: (Cod.numl s.size ++ octets s)
def encL (l : List FV) : List Nat := 3 :: (Cod.numl l.length ++ (l.map encF).flatten)

set_option maxRecDepth 20000 in
set_option maxHeartbeats 1000000 in
theorem formedI_any (n : Int) (w : World) : Calls Tryz.prog 197 #[.agg #[.int .i64 1, .int .i64 n, .string ⟨#[]⟩, .slice none 0 0]] w fun e w' => e = .returned (.tuple #[.int .i64 0, .bool true]) ∧ Below w.heap.size w w' := by
 by_cases h0 : n = 0
 · subst h0
   go_enter Tryz.func197, Tryz.ntmps197
   go_wp2_with fail
   go_ret2
   exact ⟨rfl, ((Below.refl _ w).alloc (Nat.le_refl _) _).alloc (by simp) _⟩
 · have hn : (n == 0) = false := by simpa using h0
   go_enter Tryz.func197, Tryz.ntmps197
   go_wp2_with fail
   go_ret2
   exact ⟨rfl, ((Below.refl _ w).alloc (Nat.le_refl _) _).alloc (by simp) _⟩

set_option maxRecDepth 20000 in
set_option maxHeartbeats 1000000 in
theorem formedT_any (s : ByteArray) (w : World) : Calls Tryz.prog 197 #[.agg #[.int .i64 2, .int .i64 0, .string s, .slice none 0 0]] w fun e w' => e = .returned (.tuple #[.int .i64 0, .bool true]) ∧ Below w.heap.size w w' := by
 cases hs : s.toList.isEmpty with
 | true =>
  go_enter Tryz.func197, Tryz.ntmps197
  go_wp2_with fail
  go_ret2
  exact ⟨rfl, ((Below.refl _ w).alloc (Nat.le_refl _) _).alloc (by simp) _⟩
 | false =>
  go_enter Tryz.func197, Tryz.ntmps197
  go_wp2_with fail
  go_ret2
  exact ⟨rfl, ((Below.refl _ w).alloc (Nat.le_refl _) _).alloc (by simp) _⟩

theorem formedF_any (x : FV) (w : World) : Calls Tryz.prog 197 #[.agg (fvC x).toArray] w fun e w' => e = .returned (.tuple #[.int .i64 0, .bool true]) ∧ Below w.heap.size w w' := by
 cases x with
 | int n => exact formedI_any n w
 | text s => exact formedT_any s w

structure FS (w : World) (b n c : Nat) (l : List FV) : Prop where
 blk : Blk w b 169 (l.map fvC).flatten
 len : l.length = n
 le : n ≤ c
 bd : n ≤ 1000
 max : c ≤ 9223372036854775807
theorem FS.below {w w' : World} {b n c : Nat} {l : List FV} (h : FS w b n c l) (hb : Below w.heap.size w w') : FS w' b n c l := ⟨h.blk.below hb h.blk.lt, h.len, h.le, h.bd, h.max⟩
theorem fvC_len (x : FV) : (fvC x).length = 4 := by cases x <;> rfl
theorem FS.row {w : World} {b n c : Nat} {l : List FV} (h : FS w b n c l) {k : Nat} {x : FV} (hx : l[k]? = some x) : ∀ (j : Nat) u, (fvC x)[j]? = some u → w.cell? ⟨b, k * 4 + j, none⟩ = some u := fun j u hu =>
 h.blk.at_ (flat_get (rows := l.map fvC) (s := 4) (by simp [fvC_len]) (by rw [List.getElem?_map, hx]; rfl) hu)

set_option maxRecDepth 20000 in
set_option maxHeartbeats 2000000 in
theorem formedL_any (b n c : Nat) (l : List FV) (w : World) (H : FS w b n c l) : Calls Tryz.prog 197 #[.agg #[.int .i64 3, .int .i64 0, .string ⟨#[]⟩, .slice (some ⟨b, 0, none⟩) n c]] w fun e w' => e = .returned (.tuple #[.int .i64 1, .bool true]) ∧ Below w.heap.size w w' := by
 have hbd := H.bd
 have hlen := H.len
 have hle := H.le
 have hmx := H.max
 have n63 : (n : Int) ≤ 1000 := by omega
 obtain ⟨sb, hsb⟩ : ∃ sb, Hid (w.heap.size = sb) := ⟨_, rfl⟩
 have hB1 : Hid (Blk (w.alloc (.cells #[.int .i64 3, .int .i64 0, .string ⟨#[]⟩, .slice (some ⟨b, 0, none⟩) n c] 169)) sb 169 [.int .i64 3, .int .i64 0, .string ⟨#[]⟩, .slice (some ⟨b, 0, none⟩) n c]) := by rw [← hsb.out]; exact Blk.new w _ _
 go_enter Tryz.func197, Tryz.ntmps197
 go_wp2_with fail
 rw [hsb.out]
 have hb1 : ∀ o o', Below w.heap.size w ((w.alloc o).alloc o') := fun o o' => ((Below.refl _ w).alloc (Nat.le_refl _) _).alloc (by simp) _
 have hb2 := Lib.hid (hb1 (.cells #[.int .i64 3, .int .i64 0, .string ⟨#[]⟩, .slice (some ⟨b, 0, none⟩) n c] 169))
 clear hb1 hB1
 go_loopw [2, 57] (fun d i wr => ∃ k : Nat, k ≤ n ∧ d = .int .i64 0 ∧ i = .int .i64 k ∧ Hid (Below w.heap.size w wr)) (fun _ i _ => n - (intOf i).toNat)
 case atStart => exact ⟨0, Nat.zero_le _, rfl, rfl, hb2.out _⟩
 case round =>
  obtain ⟨k, hk, rfl, rfl, hb⟩ := hrel
  by_cases hlt : k < n
  · have hkl : k < l.length := by omega
    obtain ⟨x, hx⟩ : ∃ x, l[k]? = some x := ⟨_, List.getElem?_eq_getElem hkl⟩
    have hrow := (H.below hb.out).row hx
    have k0 : (0 : Int) ≤ (k : Int) := by omega
    have k1 : (k : Int) < (n : Int) := by omega
    cases x with
    | int m =>
     have d0 := hrow 0 _ rfl
     have d1 := hrow 1 _ rfl
     have d2 := hrow 2 _ rfl
     have d3 := hrow 3 _ rfl
     have hcl := Lib.hid (formedF_any (.int m))
     unfold fvC at hcl
     rw [Nat.add_zero] at d0
     clear hrow
     go_wp2_with fail
     refine (hcl.out _).mono ?_
     rintro e w2 ⟨rfl, hb2⟩
     have hb3 := Lib.hid ((hb.out.alloc hb.out.size _).trans (hb2.mono (Nat.le_trans hb.out.size (by simp))))
     clear hb2 hcl d0 d1 d2 d3
     go_wp2_with fail
     go_roundw
     case rel => exact ⟨k + 1, by omega, by go_num, by go_num, hb3⟩
     case measure => simp [intOf]; omega
    | text m =>
     have d0 := hrow 0 _ rfl
     have d1 := hrow 1 _ rfl
     have d2 := hrow 2 _ rfl
     have d3 := hrow 3 _ rfl
     have hcl := Lib.hid (formedF_any (.text m))
     unfold fvC at hcl
     rw [Nat.add_zero] at d0
     clear hrow
     go_wp2_with fail
     refine (hcl.out _).mono ?_
     rintro e w2 ⟨rfl, hb2⟩
     have hb3 := Lib.hid ((hb.out.alloc hb.out.size _).trans (hb2.mono (Nat.le_trans hb.out.size (by simp))))
     clear hb2 hcl d0 d1 d2 d3
     go_wp2_with fail
     go_roundw
     case rel => exact ⟨k + 1, by omega, by go_num, by go_num, hb3⟩
     case measure => simp [intOf]; omega
  · obtain rfl : k = n := by omega
    go_wp2_with fail
    go_ret2
    exact ⟨rfl, hb.out⟩
end Go.Proofs.YtnonfdcbnkdmcaaGreatDoor
namespace Go
theorem step_append_own {P : Program} {ops : Array Oper} {o : Oper} {a : Act} {w : World} {K : Act → World → Prop} {Q : Exit → Act → World → Prop} {E : Prop}
 (hg : o.guard = none) (s x : Operand) (t : TypeId) (hop : o.op = Op.call { callee := Callee.builtin Builtin.append, args := #[s, x], argTypes := #[t, t] })
 (e : TypeId) (i : TypeInfo) (z : Value) (size bytes : Nat) (h1 : P.underlying t = some (.slice e)) (h2 : P.info? e = some i) (h3 : i.zero = some z) (h4 : i.size = size) (h5 : i.bytes = bytes) (h6 : z.cells.size = size) (h7 : 0 < size)
 (B : Nat) (v : Value) (n : Nat) (xs : List Value) (hs : a.eval s = v) (hown : w.ownsRow B e size v n xs)
 (ad : Addr) (m c : Nat) (news : List Value) (hx : a.eval x = .slice (some ad) m c) (hn : news.length = m * size) (hc : ∀ j u, news[j]? = some u → w.cell? (ad.add j) = some u) (h1c : ∀ u ∈ news, u.oneCell' = true)
 (b1 : n + m ≤ maxLen) (b2 : (n + m) * bytes ≤ 140737488355328) (hB : B ≤ w.heap.size)
 (hK : ∀ v' w', w'.ownsRow B e size v' (n + m) (xs ++ news) → w.grownBy w' v.ownBlock → (v'.ownBlock = v.ownBlock ∨ v'.ownBlock = some w.heap.size) → K (a.put o.dst v') w') :
 if Region.wanted o (yielded ops a.tmps) = true then Oper.wp P o a w K Q else E := by
 have hw : Region.wanted o (yielded ops a.tmps) = true := by simp [Region.wanted, hg]
 rw [if_pos hw]
 obtain ⟨v', w', hrun, r1, r2, _, r4⟩ := run_append_own_at (P := P) (w := w) B t o.type e i z size bytes h1 h2 h3 h4 h5 h6 h7 v n xs hown ad m c news hn hc h1c b1 b2 hB
 unfold Oper.wp
 simp [execOp, hop, resolve, invoke, builtin, hs, hx, hrun, Result.andThen]
 exact hK v' w' r1 r2 r4
theorem step_append_ownS {P : Program} {ops : Array Oper} {o : Oper} {a : Act} {w : World} {K : Act → World → Prop} {Q : Exit → Act → World → Prop} {E : Prop}
 (hg : o.guard = none) (s x : Operand) (t u : TypeId) (hop : o.op = Op.call { callee := Callee.builtin Builtin.append, args := #[s, x], argTypes := #[t, u] })
 (e : TypeId) (i : TypeInfo) (h1 : P.underlying t = some (.slice e)) (hu : P.underlying u = some .string) (h2 : P.info? e = some i) (h3 : i.zero = some (.int .u8 0)) (h4 : i.size = 1) (h5 : i.bytes = 1)
 (B : Nat) (v : Value) (n : Nat) (xs : List Value) (hs : a.eval s = v) (hown : w.ownsRow B e 1 v n xs)
 (txt : ByteArray) (hx : a.eval x = .string txt)
 (b1 : n + txt.size ≤ maxLen) (b2 : n + txt.size ≤ 140737488355328) (hB : B ≤ w.heap.size)
 (hK : ∀ v' w', w'.ownsRow B e 1 v' (n + txt.size) (xs ++ Lib.strCells txt) → w.grownBy w' v.ownBlock → K (a.put o.dst v') w') :
 if Region.wanted o (yielded ops a.tmps) = true then Oper.wp P o a w K Q else E := by
 have hw : Region.wanted o (yielded ops a.tmps) = true := by simp [Region.wanted, hg]
 rw [if_pos hw]
 obtain ⟨v', w', hrun, r1, r2, _⟩ := Lib.run_append_own_string (P := P) (w := w) B t u o.type e i h1 hu h2 h3 h4 h5 v n xs hown txt b1 b2 hB
 unfold Oper.wp
 simp [execOp, hop, resolve, invoke, builtin, hs, hx, hrun, Result.andThen]
 exact hK v' w' r1 r2
theorem World.ownsRow.own {w : World} {B : Nat} {e : TypeId} {s : Nat} {v : Value} {n : Nat} {xs : List Value} (h : w.ownsRow B e s v n xs) : ∀ k, v.ownBlock = some k → B ≤ k ∧ k < w.heap.size := by
 intro k hk
 rcases h.2 with ⟨rfl, _⟩ | ⟨g, cap, cur, rfl, hbg, hg, _⟩
 · cases hk
 · cases hk
   exact ⟨hbg, (Array.getElem?_eq_some_iff.1 hg).1⟩
end Go

namespace Go.Proofs.YtnonfdcbnkdmcaaGreatDoor
open Go.RowKit Go.Mem

theorem Grw.below {B : Nat} {w w' : World} {v v' : Value} (h : Grw w v w' v') (hv : ∀ k, v.ownBlock = some k → B ≤ k) (hB : B ≤ w.heap.size) : Below B w w' := (Below.refl B w).grown h.1 hB hv
theorem Grw.appB {w wd w1 : World} {v v' : Value} (hb : Below w.heap.size w wd) (hg : wd.grownBy w1 v.ownBlock) (hat : v'.ownBlock = v.ownBlock ∨ v'.ownBlock = some wd.heap.size) : Grw w v w1 v' :=
 ((Grw.refl w v).quiet hb).trans ⟨hg, fun k hk => by
   rcases hat with h | h
   · exact .inl (h ▸ hk)
   · rw [h] at hk; cases hk; exact .inr (Nat.le_refl _)⟩

set_option maxHeartbeats 400000 in
theorem codecCheck_any (b n c : Nat) (l : List FV) (w : World) (H : FS w b n c l) : Calls Tryz.prog 173 #[.agg #[.int .i64 3, .int .i64 0, .string ⟨#[]⟩, .slice (some ⟨b, 0, none⟩) n c]] w fun e w' => e = .returned (.int .i64 0) ∧ Below w.heap.size w w' := by
 have H' := Lib.hid H
 have hb0 := Lib.hid ((Below.refl w.heap.size w).alloc (Nat.le_refl _) (.cells #[.int .i64 3, .int .i64 0, .string ⟨#[]⟩, .slice (some ⟨b, 0, none⟩) n c] 169))
 have hf := Lib.hid (formedL_any b n c l _ (H.below hb0.out))
 clear H
 go_enter Tryz.func173, Tryz.ntmps173
 go_wp2_with fail
 refine hf.out.mono ?_
 rintro e w1 ⟨rfl, hb1⟩
 go_wp2_with fail
 go_ret
 exact ⟨rfl, hb0.out.trans (hb1.mono hb0.out.size)⟩

def OwnsB (B : Nat) (n : Nat) (xs : List Nat) (w : World) (e : Ending) (w' : World) : Prop := ∃ v', e = .returned v' ∧ w'.ownsRow B 5 1 v' n (bv xs) ∧ Below B w w'

structure EncW (w wz : World) (tb : Nat) (cs : List Value) : Prop where
 blk : Blk wz tb 169 cs
 size : w.heap.size ≤ wz.heap.size
section
variable {w wz wq : World} {tb i : Nat} {u : Value} {cs : List Value}
theorem EncW.mk' (hc : cs[i]? = some u) (h : EncW w wz tb cs) : wz.cell? ⟨tb, i, none⟩ = some u ∧ EncW w wz tb cs := ⟨h.blk.at_ hc, h⟩
theorem EncW.alloc (h : EncW w wz tb cs) (o : Obj) : EncW w (wz.alloc o) tb cs := ⟨h.blk.alloc o, Nat.le_trans h.size (by simp)⟩
theorem EncW.drew (h : EncW w wz tb cs) : EncW w wz.drew tb cs := ⟨h.blk, h.size⟩
theorem EncW.grown {r : Option Nat} (h : EncW w wz tb cs) (hg : wz.grownBy wq r) (hr : ∀ k, r = some k → tb ≠ k) : EncW w wq tb cs := ⟨h.blk.grown hg (fun e => hr tb e.symm rfl), Nat.le_trans h.size hg.size⟩
theorem EncW.apart {v v' : Value} (h : EncW w wz tb cs) (hto : ∀ k, v.ownBlock = some k → tb ≠ k) (hat : v'.ownBlock = v.ownBlock ∨ v'.ownBlock = some wz.heap.size) : ∀ k, v'.ownBlock = some k → tb ≠ k := fun k hk => by
 rcases hat with e | e
 · exact hto k (e ▸ hk)
 · rw [e] at hk
   cases hk
   exact Nat.ne_of_lt h.blk.lt
theorem EncW.allocB (h : wz.cell? ⟨tb, i, none⟩ = some u ∧ EncW w wz tb cs) (o : Obj) : (wz.alloc o).cell? ⟨tb, i, none⟩ = some u ∧ EncW w (wz.alloc o) tb cs := ⟨((Below.refl _ wz).alloc (Nat.le_refl _) o).cell (p := ⟨tb, i, none⟩) h.2.blk.lt |>.trans h.1, h.2.alloc o⟩
theorem EncW.drewB (h : wz.cell? ⟨tb, i, none⟩ = some u ∧ EncW w wz tb cs) : wz.drew.cell? ⟨tb, i, none⟩ = some u ∧ EncW w wz.drew tb cs := ⟨h.1, h.2.drew⟩
end

set_option maxRecDepth 20000 in
set_option maxHeartbeats 2000000 in
theorem writeI_any (B : Nat) (v : Value) (n : Nat) (m : Int) (hm : I64 m) (xs : List Nat) (w : World) (hown : w.ownsRow B 5 1 v n (bv xs)) (hB : B ≤ w.heap.size) (hn : n ≤ 900000000) :
 Calls Tryz.prog 198 #[v, .agg (fvC (.int m)).toArray] w (OwnsB B (n + (encF (.int m)).length) (xs ++ encF (.int m)) w) := by
 obtain ⟨i0, hi, hz0, hz1, hz2⟩ := info_parts infoB
 have hun := Lib.hid (unsigned_any m hm)
 have hz64 := (zigN_eq m).2
 have hlt := hown.own
 obtain ⟨tb, htb⟩ : ∃ tb, Hid (w.heap.size = tb) := ⟨_, rfl⟩
 have hB1 : EncW w (w.alloc (.cells (fvC (.int m)).toArray 169)) tb (fvC (.int m)) := ⟨htb.out ▸ Blk.new w _ _, by simp⟩
 simp only [fvC] at hB1 ⊢
 have ho1 : Hid (∀ o, ((w.alloc (.cells #[.int .i64 1, .int .i64 m, .string ⟨#[]⟩, .slice none 0 0] 169)).drew.alloc o).ownsRow B 5 1 v n (bv xs)) := fun o => World.ownsRow.alloc (hown.alloc _) _
 have hbw : Hid (∀ o, Below w.heap.size w ((w.alloc (.cells #[.int .i64 1, .int .i64 m, .string ⟨#[]⟩, .slice none 0 0] 169)).drew.alloc o)) := fun o => ((Below.refl _ w).alloc (Nat.le_refl _) _).drew.alloc (by simp) o
 have hsz : Hid (∀ o, w.heap.size ≤ ((w.alloc (.cells #[.int .i64 1, .int .i64 m, .string ⟨#[]⟩, .slice none 0 0] 169)).drew.alloc o).heap.size) := fun o => (hbw.out o).size
 have hcn : Hid (∀ j u, [Value.int .u8 1][j]? = some u → (((w.alloc (.cells #[.int .i64 1, .int .i64 m, .string ⟨#[]⟩, .slice none 0 0] 169)).alloc (.cells #[.int .u8 1] 5)).drew).cell? ((⟨w.heap.size + 1, 0, none⟩ : Addr).add j) = some u) := by
  have h := cell_one_new (w.alloc (.cells #[.int .i64 1, .int .i64 m, .string ⟨#[]⟩, .slice none 0 0] 169)) (.int .u8 1) 5
  rw [show (w.alloc (.cells #[.int .i64 1, .int .i64 m, .string ⟨#[]⟩, .slice none 0 0] 169)).heap.size = w.heap.size + 1 by simp] at h
  exact h
 have hto : Hid (∀ k, v.ownBlock = some k → tb ≠ k) := fun k hk e => by
  have h1 := (hlt k hk).2
  have h2 := htb.out
  omega
 have hS := EncW.mk' (i := 1) rfl hB1
 generalize hz : zigN m = z at *
 have hnum : Hid (∀ v1 w1, w1.ownsRow B 5 1 v1 (n + 1) (bv (xs ++ [1])) → w.heap.size ≤ w1.heap.size → Calls Tryz.prog 199 #[v1, .int .u64 (z : Int)] w1 (OwnsG B v1 (n + 1 + (Cod.numl z).length) (xs ++ [1] ++ Cod.numl z) w1)) := fun v1 w1 h1 h2 => numeral_any B v1 (n + 1) z _ (hz ▸ hz64) w1 h1 (Nat.le_trans hB h2) (by omega)
 have hfin : Hid (∀ v1 w1 v2 w2, Grw w v w1 v1 → Grw w1 v1 w2 v2 → w2.ownsRow B 5 1 v2 (n + 1 + (Cod.numl z).length) (bv (xs ++ [1] ++ Cod.numl z)) → OwnsB B (n + (encF (.int m)).length) (xs ++ encF (.int m)) w (.returned v2) w2) := fun v1 w1 v2 w2 g1 g2 h2 => by
  refine ⟨v2, rfl, ?_, (g1.trans g2).below (fun k hk => (hlt k hk).1) hB⟩
  show World.ownsRow _ _ _ _ _ (n + (1 :: Cod.numl (zigN m)).length) (bv (xs ++ 1 :: Cod.numl (zigN m)))
  rw [hz, List.length_cons, show n + ((Cod.numl z).length + 1) = n + 1 + (Cod.numl z).length by omega, show xs ++ 1 :: Cod.numl z = xs ++ [1] ++ Cod.numl z by simp]
  exact h2
 clear hB1 hm hz hlt
 generalize hX : OwnsB B (n + (encF (.int m)).length) (xs ++ encF (.int m)) w = X at *
 go_enter Tryz.func198, Tryz.ntmps198
 go_wp2_with fail
 rw [htb.out]
 go_region_held3 (fun wz => wz.cell? ⟨tb, 1, none⟩ = some (.int .i64 m) ∧ EncW w wz tb [.int .i64 1, .int .i64 m, .string ⟨#[]⟩, .slice none 0 0]) (repeat (first | assumption | apply EncW.drewB | apply EncW.allocB))
  (first
    | (refine step_append_own rfl (.tmp 5) (.tmp 6) 71 rfl 5 i0 (.int .u8 0) 1 1 Tryz.underlying71 hi hz0 hz1 hz2 rfl (by decide) B v n (bv xs) rfl (ho1.out _) ⟨_, 0, none⟩ 1 1 [.int .u8 1] rfl rfl hcn.out (bv_one [1]) (by unfold maxLen; omega) (by omega) (Nat.le_trans hB (hsz.out _)) ?_; intro v1 w1 hown1 hgrow1 hat1; have hG1 := Grw.appB (hbw.out _) hgrow1 hat1; have hsq : w1.cell? ⟨tb, 1, none⟩ = some (.int .i64 m) ∧ EncW w w1 tb [.int .i64 1, .int .i64 m, .string ⟨#[]⟩, .slice none 0 0] := EncW.mk' rfl (EncW.grown (And.right (by assumption)) hgrow1 hto.out); have hap1 := EncW.apart (And.right (by assumption)) hto.out hat1)
     | (go_at_call 200; refine (hun.out _).mono ?_; rintro e wq ⟨rfl, rfl⟩)
     | (go_at_call 199; refine (hnum.out v1 _ (by rw [bv_append]; exact hown1) hsq.2.size).mono ?_; rintro e w2 ⟨v2, rfl, hown2, hG2⟩; have hsq2 : w2.cell? ⟨tb, 1, none⟩ = some (.int .i64 m) ∧ EncW w w2 tb [.int .i64 1, .int .i64 m, .string ⟨#[]⟩, .slice none 0 0] := EncW.mk' rfl (EncW.grown hsq.2 hG2.1 hap1)))
 go_wp2_with fail
 exact hfin.out _ _ _ _ hG1 hG2 hown2
theorem strCells_bv (s : ByteArray) : Lib.strCells s = bv (octets s) := by
 simp only [Lib.strCells, bv, octets, List.map_map]
 rfl

set_option maxRecDepth 20000 in
set_option maxHeartbeats 2000000 in
theorem writeT_any (B : Nat) (v : Value) (n : Nat) (m : ByteArray) (hm : m.size ≤ 100000000) (xs : List Nat) (w : World) (hown : w.ownsRow B 5 1 v n (bv xs)) (hB : B ≤ w.heap.size) (hn : n ≤ 900000000) :
 Calls Tryz.prog 201 #[v, .agg (fvC (.text m)).toArray] w (OwnsB B (n + (encF (.text m)).length) (xs ++ encF (.text m)) w) := by
 obtain ⟨i0, hi, hz0, hz1, hz2⟩ := info_parts infoB
 have hlt := hown.own
 obtain ⟨tb, htb⟩ : ∃ tb, Hid (w.heap.size = tb) := ⟨_, rfl⟩
 have hB1 : EncW w (w.alloc (.cells (fvC (.text m)).toArray 169)) tb (fvC (.text m)) := ⟨htb.out ▸ Blk.new w _ _, by simp⟩
 simp only [fvC] at hB1 ⊢
 have ho1 : Hid (∀ o, ((w.alloc (.cells #[.int .i64 2, .int .i64 0, .string m, .slice none 0 0] 169)).drew.alloc o).ownsRow B 5 1 v n (bv xs)) := fun o => World.ownsRow.alloc (hown.alloc _) _
 have hbw : Hid (∀ o, Below w.heap.size w ((w.alloc (.cells #[.int .i64 2, .int .i64 0, .string m, .slice none 0 0] 169)).drew.alloc o)) := fun o => ((Below.refl _ w).alloc (Nat.le_refl _) _).drew.alloc (by simp) o
 have hsz : Hid (∀ o, w.heap.size ≤ ((w.alloc (.cells #[.int .i64 2, .int .i64 0, .string m, .slice none 0 0] 169)).drew.alloc o).heap.size) := fun o => (hbw.out o).size
 have hcn : Hid (∀ j u, [Value.int .u8 2][j]? = some u → (((w.alloc (.cells #[.int .i64 2, .int .i64 0, .string m, .slice none 0 0] 169)).alloc (.cells #[.int .u8 2] 5)).drew).cell? ((⟨w.heap.size + 1, 0, none⟩ : Addr).add j) = some u) := by
  have h := cell_one_new (w.alloc (.cells #[.int .i64 2, .int .i64 0, .string m, .slice none 0 0] 169)) (.int .u8 2) 5
  rw [show (w.alloc (.cells #[.int .i64 2, .int .i64 0, .string m, .slice none 0 0] 169)).heap.size = w.heap.size + 1 by simp] at h
  exact h
 have hto : Hid (∀ k, v.ownBlock = some k → tb ≠ k) := fun k hk e => by
  have h1 := (hlt k hk).2
  have h2 := htb.out
  omega
 have hS := EncW.mk' (i := 2) rfl hB1
 have hm0 : (0 : Int) ≤ (m.size : Int) := by omega
 have hm1 : (m.size : Int) ≤ 100000000 := by omega
 have hw64 : IntKind.u64.wrap (m.size : Int) = (m.size : Int) := by simp [IntKind.wrap, IntKind.bits, IntKind.signed]; omega
 have hnum : Hid (∀ v1 w1, w1.ownsRow B 5 1 v1 (n + 1) (bv (xs ++ [2])) → w.heap.size ≤ w1.heap.size → Calls Tryz.prog 199 #[v1, .int .u64 (m.size : Int)] w1 (OwnsG B v1 (n + 1 + (Cod.numl m.size).length) (xs ++ [2] ++ Cod.numl m.size) w1)) := fun v1 w1 h1 h2 => numeral_any B v1 (n + 1) m.size _ (by omega) w1 h1 (Nat.le_trans hB h2) (by omega)
 have hfin : Hid (∀ v1 w1 v2 w2 v3 w3, Grw w v w1 v1 → Grw w1 v1 w2 v2 → w2.ownsRow B 5 1 v2 (n + 1 + (Cod.numl m.size).length) (bv (xs ++ [2] ++ Cod.numl m.size)) → w2.grownBy w3 v2.ownBlock → w3.ownsRow B 5 1 v3 (n + 1 + (Cod.numl m.size).length + m.size) (bv (xs ++ [2] ++ Cod.numl m.size) ++ Lib.strCells m) → OwnsB B (n + (encF (.text m)).length) (xs ++ encF (.text m)) w (.returned v3) w3) := fun v1 w1 v2 w2 v3 w3 g1 g2 h2 g3 h3 => by
  have hb2 := (g1.trans g2).below (fun k hk => (hlt k hk).1) hB
  refine ⟨v3, rfl, ?_, hb2.grown g3 (Nat.le_trans hB hb2.size) (fun k hk => (h2.own k hk).1)⟩
  have e1 : bv (xs ++ [2] ++ Cod.numl m.size) ++ Lib.strCells m = bv (xs ++ encF (.text m)) := by
   rw [strCells_bv, ← bv_append]
   congr 1
   simp [encF]
  have e2 : n + 1 + (Cod.numl m.size).length + m.size = n + (encF (.text m)).length := by
   simp only [encF, List.length_cons, List.length_append, octets_length]; omega
  rw [← e1, ← e2]
  exact h3
 clear hB1 hlt
 generalize hX : OwnsB B (n + (encF (.text m)).length) (xs ++ encF (.text m)) w = X at *
 go_enter Tryz.func201, Tryz.ntmps201
 go_wp2_with fail
 rw [htb.out]
 go_region_held3 (fun wz => wz.cell? ⟨tb, 2, none⟩ = some (.string m) ∧ EncW w wz tb [.int .i64 2, .int .i64 0, .string m, .slice none 0 0]) (repeat (first | assumption | apply EncW.drewB | apply EncW.allocB))
  (first
    | (refine step_append_own rfl (.tmp 5) (.tmp 6) 71 rfl 5 i0 (.int .u8 0) 1 1 Tryz.underlying71 hi hz0 hz1 hz2 rfl (by decide) B v n (bv xs) rfl (ho1.out _) ⟨_, 0, none⟩ 1 1 [.int .u8 2] rfl rfl hcn.out (bv_one [2]) (by unfold maxLen; omega) (by omega) (Nat.le_trans hB (hsz.out _)) ?_; intro v1 w1 hown1 hgrow1 hat1; have hG1 := Grw.appB (hbw.out _) hgrow1 hat1; have hsq : w1.cell? ⟨tb, 2, none⟩ = some (.string m) ∧ EncW w w1 tb [.int .i64 2, .int .i64 0, .string m, .slice none 0 0] := EncW.mk' rfl (EncW.grown (And.right (by assumption)) hgrow1 hto.out); have hap1 := EncW.apart (And.right (by assumption)) hto.out hat1)
     | (go_at_call 199; refine (hnum.out v1 _ (by rw [bv_append]; exact hown1) hsq.2.size).mono ?_; rintro e w2 ⟨v2, rfl, hown2, hG2⟩; have hsq2 : w2.cell? ⟨tb, 2, none⟩ = some (.string m) ∧ EncW w w2 tb [.int .i64 2, .int .i64 0, .string m, .slice none 0 0] := EncW.mk' rfl (EncW.grown hsq.2 hG2.1 hap1); have hap2 := hG2.apart hsq.2.blk.lt hap1)
     | (refine step_append_ownS rfl (.tmp 12) (.tmp 14) 71 9 rfl 5 i0 Tryz.underlying71 Tryz.underlying9 hi hz0 hz1 hz2 B v2 _ _ rfl hown2 m rfl (by have := Cod.numl_len64 (u := m.size) (by omega); unfold maxLen; omega) (by have := Cod.numl_len64 (u := m.size) (by omega); omega) (Nat.le_trans hB hsq2.2.size) ?_; intro v3 w3 hown3 hgrow3; have hsq3 : w3.cell? ⟨tb, 2, none⟩ = some (.string m) ∧ EncW w w3 tb [.int .i64 2, .int .i64 0, .string m, .slice none 0 0] := EncW.mk' rfl (EncW.grown hsq2.2 hgrow3 hap2)))
 go_wp2_with fail
 exact hfin.out _ _ _ _ _ _ hG1 hG2 hown2 hgrow3 hown3
end Go.Proofs.YtnonfdcbnkdmcaaGreatDoor
namespace Go.Proofs.YtnonfdcbnkdmcaaGreatDoor
open Go.RowKit Go.Mem

def wrC (pb : Nat) : List Value := [.nilFunc, (.func (.func 198) #[] #[]), (.func (.func 201) #[] #[]), .func (.func 202) #[] #[.pointer (some ⟨pb, 0, none⟩)]]
structure Wrt (w : World) (wb pb : Nat) : Prop where
 wr : Blk w wb 221 (wrC pb)
 var : Blk w pb 201 [.pointer (some ⟨wb, 0, none⟩)]
theorem Wrt.below {B : Nat} {w w' : World} {wb pb : Nat} (h : Wrt w wb pb) (hb : Below B w w') (h1 : wb < B) (h2 : pb < B) : Wrt w' wb pb := ⟨h.wr.below hb h1, h.var.below hb h2⟩

set_option maxRecDepth 20000 in
set_option maxHeartbeats 1000000 in
theorem newWriter_any (w : World) : Calls Tryz.prog 174 #[] w fun e w' => ∃ wb pb, e = .returned (.pointer (some ⟨wb, 0, none⟩)) ∧ Wrt w' wb pb ∧ wb < w'.heap.size ∧ pb < w'.heap.size ∧ Below w.heap.size w w' := by
 have hR : Hid (Wrt ((w.alloc (.cells (wrC (w.heap.size + 1)).toArray 221)).alloc (.cells #[.pointer (some ⟨w.heap.size, 0, none⟩)] 201)) w.heap.size (w.heap.size + 1)) := by
  have h := Blk.new (w.alloc (.cells (wrC (w.heap.size + 1)).toArray 221)) 201 [.pointer (some ⟨w.heap.size, 0, none⟩)]
  rw [show (w.alloc (.cells (wrC (w.heap.size + 1)).toArray 221)).heap.size = w.heap.size + 1 by simp] at h
  exact ⟨(Blk.new w 221 (wrC (w.heap.size + 1))).alloc _, h⟩
 have hb := Lib.hid (((Below.refl w.heap.size w).alloc (Nat.le_refl _) (.cells (wrC (w.heap.size + 1)).toArray 221)).alloc (by simp) (.cells #[.pointer (some ⟨w.heap.size, 0, none⟩)] 201))
 go_enter Tryz.func174, Tryz.ntmps174
 go_wp2_with fail
 go_ret
 exact ⟨_, _, rfl, hR.out, hR.out.wr.lt, hR.out.var.lt, hb.out⟩

theorem ownsRow_base {w : World} {B B' : Nat} {e : TypeId} {s : Nat} {v : Value} {n : Nat} {xs : List Value} (h : w.ownsRow B e s v n xs) (hB : B' ≤ B) : w.ownsRow B' e s v n xs := ⟨h.1, by
 rcases h.2 with h2 | ⟨g, cap, cur, h2, hbg, h3⟩
 · exact .inl h2
 · exact .inr ⟨g, cap, cur, h2, Nat.le_trans hB hbg, h3⟩⟩
theorem encF_len (x : FV) (hx : match x with | .int m => I64 m | .text s => s.size ≤ 1000) : (encF x).length ≤ 2000 := by
 cases x with
 | int m =>
  have := Cod.numl_len64 (zigN_eq m).2
  simp only [encF, List.length_cons]; omega
 | text s =>
  have hx' : s.size ≤ 1000 := hx
  have := Cod.numl_len64 (u := s.size) (by omega)
  simp only [encF, List.length_cons, List.length_append, octets_length]; omega
def FVok (x : FV) : Prop := match x with | .int m => I64 m | .text s => s.size ≤ 1000
theorem encs_len : ∀ (l : List FV), (∀ x ∈ l, FVok x) → ((l.map encF).flatten).length ≤ 2000 * l.length
 | [], _ => by simp
 | x :: l, h => by
  have h1 := encF_len x (h x (by simp))
  have h2 := encs_len l (fun y hy => h y (by simp [hy]))
  simp only [List.map_cons, List.flatten_cons, List.length_append, List.length_cons]; omega

set_option maxRecDepth 20000 in
set_option maxHeartbeats 2000000 in
theorem writeL_any (b n c : Nat) (l : List FV) (hok : ∀ x ∈ l, FVok x) (wb pb : Nat) (w : World) (H : FS w b n c l) (hW : Wrt w wb pb) :
 Calls Tryz.prog 202 #[.slice none 0 0, .agg #[.int .i64 3, .int .i64 0, .string ⟨#[]⟩, .slice (some ⟨b, 0, none⟩) n c], .pointer (some ⟨pb, 0, none⟩)] w (OwnsB w.heap.size (encL l).length (encL l) w) := by
 obtain ⟨i0, hi, hz0, hz1, hz2⟩ := info_parts infoB
 have hbd := H.bd
 have hlen := H.len
 have hle := H.le
 have hmx := H.max
 have n0 : (0 : Int) ≤ (n : Int) := by omega
 have n63 : (n : Int) ≤ 1000 := by omega
 have hw64 : IntKind.u64.wrap (n : Int) = (n : Int) := by simp [IntKind.wrap, IntKind.bits, IntKind.signed]; omega
 obtain ⟨tb, htb⟩ : ∃ tb, Hid (w.heap.size = tb) := ⟨_, rfl⟩
 have hbw : Hid (∀ o, Below w.heap.size w ((w.alloc (.cells #[.int .i64 3, .int .i64 0, .string ⟨#[]⟩, .slice (some ⟨b, 0, none⟩) n c] 169)).drew.alloc o)) := fun o => ((Below.refl _ w).alloc (Nat.le_refl _) _).drew.alloc (by simp) o
 have hB1 : EncW w (w.alloc (.cells #[.int .i64 3, .int .i64 0, .string ⟨#[]⟩, .slice (some ⟨b, 0, none⟩) n c] 169)) tb [.int .i64 3, .int .i64 0, .string ⟨#[]⟩, .slice (some ⟨b, 0, none⟩) n c] := ⟨htb.out ▸ Blk.new w _ _, by simp⟩
 have hS := EncW.mk' (i := 3) rfl hB1
 have ho1 : Hid (∀ W : World, W.ownsRow (w.heap.size + 1) 5 1 (.slice none 0 0) 0 (bv [])) := fun W => World.ownsRow_nil W _ _ _
 have hsz : Hid (∀ o, w.heap.size + 1 ≤ ((w.alloc (.cells #[.int .i64 3, .int .i64 0, .string ⟨#[]⟩, .slice (some ⟨b, 0, none⟩) n c] 169)).drew.alloc o).heap.size) := fun o => by simp
 have hcn : Hid (∀ j u, [Value.int .u8 3][j]? = some u → (((w.alloc (.cells #[.int .i64 3, .int .i64 0, .string ⟨#[]⟩, .slice (some ⟨b, 0, none⟩) n c] 169)).alloc (.cells #[.int .u8 3] 5)).drew).cell? ((⟨w.heap.size + 1, 0, none⟩ : Addr).add j) = some u) := by
  have h := cell_one_new (w.alloc (.cells #[.int .i64 3, .int .i64 0, .string ⟨#[]⟩, .slice (some ⟨b, 0, none⟩) n c] 169)) (.int .u8 3) 5
  rw [show (w.alloc (.cells #[.int .i64 3, .int .i64 0, .string ⟨#[]⟩, .slice (some ⟨b, 0, none⟩) n c] 169)).heap.size = w.heap.size + 1 by simp] at h
  exact h
 have hto : Hid (∀ k, (Value.slice none 0 0).ownBlock = some k → tb ≠ k) := fun k hk => by cases hk
 have hnum : Hid (∀ v1 w1, w1.ownsRow (w.heap.size + 1) 5 1 v1 (0 + 1) (bv ([] ++ [3])) → w.heap.size + 1 ≤ w1.heap.size → Calls Tryz.prog 199 #[v1, .int .u64 (n : Int)] w1 (OwnsG (w.heap.size + 1) v1 (0 + 1 + (Cod.numl n).length) ([] ++ [3] ++ Cod.numl n) w1)) := fun v1 w1 h1 h2 => numeral_any (w.heap.size + 1) v1 (0 + 1) n _ (by omega) w1 h1 h2 (by omega)
 have hH := Lib.hid H
 have hWt := Lib.hid hW
 clear hB1 H hW
 generalize hX : OwnsB w.heap.size (encL l).length (encL l) w = X at *
 have hX' := Lib.hid hX
 clear hX
 go_enter Tryz.func202, Tryz.ntmps202
 go_wp2_with fail
 rw [htb.out]
 go_region_held3 (fun wz => wz.cell? ⟨tb, 3, none⟩ = some (.slice (some ⟨b, 0, none⟩) n c) ∧ EncW w wz tb [.int .i64 3, .int .i64 0, .string ⟨#[]⟩, .slice (some ⟨b, 0, none⟩) n c]) (repeat (first | assumption | apply EncW.drewB | apply EncW.allocB))
  (first
    | (refine step_append_own rfl (.tmp 8) (.tmp 9) 71 rfl 5 i0 (.int .u8 0) 1 1 Tryz.underlying71 hi hz0 hz1 hz2 rfl (by decide) (w.heap.size + 1) (.slice none 0 0) 0 (bv []) rfl (ho1.out _) ⟨_, 0, none⟩ 1 1 [.int .u8 3] rfl rfl hcn.out (bv_one [3]) (by unfold maxLen; omega) (by omega) (hsz.out _) ?_; intro v1 w1 hown1 hgrow1 hat1; have hG1 := Grw.appB (hbw.out _) hgrow1 hat1; have hsq : w1.cell? ⟨tb, 3, none⟩ = some (.slice (some ⟨b, 0, none⟩) n c) ∧ EncW w w1 tb [.int .i64 3, .int .i64 0, .string ⟨#[]⟩, .slice (some ⟨b, 0, none⟩) n c] := EncW.mk' rfl (EncW.grown (And.right (by assumption)) hgrow1 hto.out); have hap1 := EncW.apart (And.right (by assumption)) hto.out hat1; have hs1 := Nat.le_trans (hsz.out (.cells #[.int .u8 3] 5)) hgrow1.size)
     | (go_at_call 199; refine (hnum.out v1 _ (by rw [bv_append]; exact hown1) hs1).mono ?_; rintro e w2 ⟨v2, rfl, hown2, hG2⟩; have hsq2 : w2.cell? ⟨tb, 3, none⟩ = some (.slice (some ⟨b, 0, none⟩) n c) ∧ EncW w w2 tb [.int .i64 3, .int .i64 0, .string ⟨#[]⟩, .slice (some ⟨b, 0, none⟩) n c] := EncW.mk' rfl (EncW.grown hsq.2 hG2.1 hap1)))
 have t3 := hsq2.1
 have hs2 := Lib.hid (Nat.le_trans hs1 hG2.1.size)
 have hown3 := Lib.hid (show w2.ownsRow (w.heap.size + 1) 5 1 v2 (3 :: Cod.numl n).length (bv (3 :: Cod.numl n)) by rw [show (3 :: Cod.numl n).length = 0 + 1 + (Cod.numl n).length by simp; omega]; exact hown2)
 have hb2 := Lib.hid ((hG1.trans hG2).below (B := w.heap.size) (fun k hk => by cases hk) (Nat.le_refl _))
 clear hown1 hgrow1 hat1 hG1 hsq hap1 hs1 hown2 hG2 hsq2 hnum hto hcn hsz ho1 hS hbw hi hz0 hz1 hz2
 go_wp2_with fail
 go_loopw [0, 19] (fun vb i wr => ∃ (k : Nat) (ys : List Nat), k ≤ n ∧ i = .int .i64 k ∧ Hid (ys ++ ((l.drop k).map encF).flatten = encL l) ∧ Hid (wr.ownsRow (w.heap.size + 1) 5 1 vb ys.length (bv ys)) ∧ w.heap.size + 1 ≤ wr.heap.size ∧ Hid (Below w.heap.size w wr)) (fun _ i _ => n - (intOf i).toNat)
 case atStart => exact ⟨0, 3 :: Cod.numl n, Nat.zero_le _, rfl, by show _ = _; rw [List.drop_zero]; unfold encL; rw [hlen]; rfl, hown3.out, hs2.out, hb2.out⟩
 case round =>
  obtain ⟨k, ys, hk, rfl, hy, ho, hsr, hb⟩ := hrel
  by_cases hlt : k < n
  · have hkl : k < l.length := by omega
    obtain ⟨x, hx⟩ : ∃ x, l[k]? = some x := ⟨_, List.getElem?_eq_getElem hkl⟩
    have hrow := (hH.out.below hb.out).row hx
    have hokx := hok x (List.mem_of_getElem? hx)
    have hWr := hWt.out.below hb.out hWt.out.wr.lt hWt.out.var.lt
    have k0 : (0 : Int) ≤ (k : Int) := by omega
    have k1 : (k : Int) < (n : Int) := by omega
    have hyl : ys.length ≤ 3000000 := by
     have h1 := congrArg List.length hy.out
     have h2 := encs_len l hok
     have h3 := Cod.numl_len64 (u := l.length) (by omega)
     simp only [encL, List.length_append, List.length_cons] at h1
     omega
    have hy2 : Hid ((ys ++ encF x) ++ ((l.drop (k + 1)).map encF).flatten = encL l) := by
     show _ = _
     rw [← hy.out, List.append_assoc]
     congr 1
     rw [List.drop_eq_getElem_cons hkl, List.getElem?_eq_getElem hkl |>.symm.trans hx |> Option.some.inj]
     rfl
    cases x with
    | int m =>
     have d0 := hrow 0 _ rfl
     have d1 := hrow 1 _ rfl
     have d2 := hrow 2 _ rfl
     have d3 := hrow 3 _ rfl
     rw [Nat.add_zero] at d0
     clear hrow
     have hcl := Lib.hid (writeI_any (w.heap.size + 1) u0 ys.length m hokx ys ((wr.alloc (.cells (fvC (.int m)).toArray 169)).drew) (ho.out.alloc _) (Nat.le_trans hsr (by simp)) (by omega))
     have hbe : Hid (Below wr.heap.size wr ((wr.alloc (.cells (fvC (.int m)).toArray 169)).drew)) := ((Below.refl _ wr).alloc (Nat.le_refl _) _).drew
     simp only [fvC] at hcl hbe
     have q0 := (hWr.var.alloc (.cells #[.int .i64 1, .int .i64 m, .string ⟨#[]⟩, .slice none 0 0] 169)).at_ (i := 0) rfl
     have q1 := (hWr.wr.alloc (.cells #[.int .i64 1, .int .i64 m, .string ⟨#[]⟩, .slice none 0 0] 169)).at_ (i := 1) rfl
     have hnb := Blk.new wr 169 [.int .i64 1, .int .i64 m, .string ⟨#[]⟩, .slice none 0 0]
     have r0 := hnb.at_ (i := 0) rfl
     have r1 := hnb.at_ (i := 1) rfl
     have r2 := hnb.at_ (i := 2) rfl
     have r3 := hnb.at_ (i := 3) rfl
     clear hnb hWr
     go_wp2_with fail
     generalize wr.alloc (.cells #[.int .i64 1, .int .i64 m, .string ⟨#[]⟩, .slice none 0 0] 169) = wq at *
     go_still_tail 9, (by kernel_rfl)
     repeat still_step
     change wpList _ _ _ _ _ wq.drew
     go_wp2_with fail
     refine hcl.out.mono ?_
     rintro e w5 ⟨v5, rfl, ho5, hb5⟩
     have hs5 := Nat.le_trans hsr (Nat.le_trans hbe.out.size hb5.size)
     have hb6 := Lib.hid ((hb.out.trans (hbe.out.mono (by omega))).trans (hb5.mono (by omega)))
     rw [← List.length_append] at ho5
     have ho6 := Lib.hid ho5
     clear hcl hbe hb5 ho5 q0 q1 r0 r1 r2 r3 d0 d1 d2 d3
     go_wp2_with fail
     go_roundw
     case rel => exact ⟨k + 1, ys ++ encF (.int m), by omega, by go_num, hy2, ho6, hs5, hb6⟩
     case measure => simp [intOf]; omega
    | text m =>
     have d0 := hrow 0 _ rfl
     have d1 := hrow 1 _ rfl
     have d2 := hrow 2 _ rfl
     have d3 := hrow 3 _ rfl
     rw [Nat.add_zero] at d0
     clear hrow
     have hcl := Lib.hid (writeT_any (w.heap.size + 1) u0 ys.length m (by have : m.size ≤ 1000 := hokx; omega) ys ((wr.alloc (.cells (fvC (.text m)).toArray 169)).drew) (ho.out.alloc _) (Nat.le_trans hsr (by simp)) (by omega))
     have hbe : Hid (Below wr.heap.size wr ((wr.alloc (.cells (fvC (.text m)).toArray 169)).drew)) := ((Below.refl _ wr).alloc (Nat.le_refl _) _).drew
     simp only [fvC] at hcl hbe
     have q0 := (hWr.var.alloc (.cells #[.int .i64 2, .int .i64 0, .string m, .slice none 0 0] 169)).at_ (i := 0) rfl
     have q1 := (hWr.wr.alloc (.cells #[.int .i64 2, .int .i64 0, .string m, .slice none 0 0] 169)).at_ (i := 2) rfl
     have hnb := Blk.new wr 169 [.int .i64 2, .int .i64 0, .string m, .slice none 0 0]
     have r0 := hnb.at_ (i := 0) rfl
     have r1 := hnb.at_ (i := 1) rfl
     have r2 := hnb.at_ (i := 2) rfl
     have r3 := hnb.at_ (i := 3) rfl
     clear hnb hWr
     go_wp2_with fail
     generalize wr.alloc (.cells #[.int .i64 2, .int .i64 0, .string m, .slice none 0 0] 169) = wq at *
     go_still_tail 9, (by kernel_rfl)
     repeat still_step
     change wpList _ _ _ _ _ wq.drew
     go_wp2_with fail
     refine hcl.out.mono ?_
     rintro e w5 ⟨v5, rfl, ho5, hb5⟩
     have hs5 := Nat.le_trans hsr (Nat.le_trans hbe.out.size hb5.size)
     have hb6 := Lib.hid ((hb.out.trans (hbe.out.mono (by omega))).trans (hb5.mono (by omega)))
     rw [← List.length_append] at ho5
     have ho6 := Lib.hid ho5
     clear hcl hbe hb5 ho5 q0 q1 r0 r1 r2 r3 d0 d1 d2 d3
     go_wp2_with fail
     go_roundw
     case rel => exact ⟨k + 1, ys ++ encF (.text m), by omega, by go_num, hy2, ho6, hs5, hb6⟩
     case measure => simp [intOf]; omega
  · obtain rfl : k = n := by omega
    have hyf : ys = encL l := by
     have h1 := hy.out
     rw [List.drop_eq_nil_of_le (by omega)] at h1
     simpa using h1
    subst hyf
    go_wp2_with fail
    rw [← hX'.out]
    exact ⟨u0, rfl, ownsRow_base ho.out (by omega), hb.out⟩

def EncP (xs : List Nat) (w : World) (e : Ending) (w' : World) : Prop := ∃ v', e = .returned (.tuple #[v', .int .i64 0]) ∧ w'.ownsRow w.heap.size 5 1 v' xs.length (bv xs) ∧ Below w.heap.size w w'
set_option maxRecDepth 20000 in
set_option maxHeartbeats 2000000 in
theorem Encode_any (b n c : Nat) (l : List FV) (hok : ∀ x ∈ l, FVok x) (w : World) (H : FS w b n c l) :
 Calls Tryz.prog 132 #[.agg #[.int .i64 3, .int .i64 0, .string ⟨#[]⟩, .slice (some ⟨b, 0, none⟩) n c]] w (EncP (encL l) w) := by
 obtain ⟨tb, htb⟩ : ∃ tb, Hid (w.heap.size = tb) := ⟨_, rfl⟩
 have hB1 : Hid (Blk (w.alloc (.cells #[.int .i64 3, .int .i64 0, .string ⟨#[]⟩, .slice (some ⟨b, 0, none⟩) n c] 169)) tb 169 [.int .i64 3, .int .i64 0, .string ⟨#[]⟩, .slice (some ⟨b, 0, none⟩) n c]) := by rw [← htb.out]; exact Blk.new w _ _
 have hb1 := Lib.hid ((Below.refl w.heap.size w).alloc (Nat.le_refl _) (.cells #[.int .i64 3, .int .i64 0, .string ⟨#[]⟩, .slice (some ⟨b, 0, none⟩) n c] 169))
 have hchk := Lib.hid (codecCheck_any b n c l _ (H.below hb1.out))
 have H' := Lib.hid H
 clear H
 go_enter Tryz.func132, Tryz.ntmps132
 go_wp2_with fail
 refine hchk.out.mono ?_
 rintro e w2 ⟨rfl, hb2⟩
 have hb3 := Lib.hid (hb1.out.trans (hb2.mono hb1.out.size))
 have hB2 := hB1.out.below hb2 hB1.out.lt
 have r0 := hB2.at_ (i := 0) rfl
 have r1 := hB2.at_ (i := 1) rfl
 have r2 := hB2.at_ (i := 2) rfl
 have r3 := hB2.at_ (i := 3) rfl
 have hB3 := Lib.hid hB2
 have hnw := Lib.hid (fun W => newWriter_any W)
 clear hchk hb1 hB1 hb2 hB2
 rw [htb.out]
 go_wp2_with fail
 go_region_with (first
  | (go_at_call 174; refine (hnw.out _).mono ?_; rintro e w3 ⟨wb, pb, rfl, hWt, hwb, hpb, hbn⟩; have hbr : Below w2.heap.size w2 w3 := (Below.refl _ w2).drew.trans hbn; have hB4 := hB3.out.below hbr hB3.out.lt; have s0 := hB4.at_ (i := 0) rfl; have s1 := hB4.at_ (i := 1) rfl; have s2 := hB4.at_ (i := 2) rfl; have s3 := hB4.at_ (i := 3) rfl; have q3 := hWt.wr.at_ (i := 3) rfl)
   | (refine (writeL_any b n c l hok wb pb w3 (H'.out.below (hb3.out.trans (hbr.mono hb3.out.size))) hWt).mono ?_; rintro e w4 ⟨v4, rfl, ho4, hb4⟩))
 all_goals
  have hb5 := hb3.out.trans (hbr.mono hb3.out.size)
  go_wp2_with fail
  go_ret2
  exact ⟨v4, rfl, ownsRow_base ho4 hb5.size, hb5.trans (hb4.mono hb5.size)⟩
end Go.Proofs.YtnonfdcbnkdmcaaGreatDoor
namespace Go.Proofs.YtnonfdcbnkdmcaaGreatDoor
open Go.RowKit Go.Mem

def headC (st fo no : Int) (D : List Nat) (R S : Int) : List Value := [.int .i64 st, .int .i64 fo, .int .i64 no] ++ (bv D ++ [.int .i64 R, .int .i64 S])
def txtD (D : List Nat) : ByteArray := strOfNums (D.map fun (x : Nat) => (x : Int))
def headD (st fo no : Int) (D : List Nat) : List Nat := Sha.tagged (octets ⟨#[104, 101, 97, 100]⟩) (encL [.int st, .int fo, .int no, .text (txtD D)])
def MsgPost (M : List Nat) (w : World) (e : Ending) (w' : World) : Prop := ∃ mb, e = .returned (.slice (some ⟨mb, 0, none⟩) 32 32) ∧ Blk w' mb 32 (bv M) ∧ Below w.heap.size w w'

theorem slice_at3 (W : World) (tb : Nat) :
 (Instr.sliceAt 32 (.pointer (some ⟨tb, 3, none⟩)) none none none).run Tryz.prog W = .ok (.slice (some ⟨tb, 3, none⟩) 32 32) W := by kernel_rfl
theorem dig_text (D : List Nat) (hD : D.length = 32) (tb : Nat) (W : World) (h : W.rangeAt tb 3 (bv D)) :
 (convert 71 9 (.slice (some ⟨tb, 3, none⟩) 32 32)).run Tryz.prog W = .ok (.string (txtD D)) W :=
 run_convert_bytes_arg (P := Tryz.prog) W 71 5 Tryz.underlying71 Tryz.underlying5 tb 3 32 32 (D.map fun (x : Nat) => (x : Int)) (by simp [hD]) (fun i hi => by
  have := h i (.int .u8 ((D.map fun (x : Nat) => (x : Int)).getD i 0)) (by
   simp only [bv, List.getElem?_map, List.getD]
   rw [List.getElem?_eq_getElem (by omega)]
   simp)
  exact this) 9 Tryz.underlying9
theorem sizeV : (Tryz.prog.info? 169).map (·.size) = some 4 := by kernel_rfl
theorem msg1_any (n : Int) (w : World) : Calls Tryz.prog 131 #[.int .i64 n] w fun e w' => e = .returned (.agg #[.int .i64 1, .int .i64 n, .string ⟨#[]⟩, .slice none 0 0]) ∧ Below w.heap.size w w' := by
 go_enter Tryz.func131, Tryz.ntmps131
 go_wp2_with fail
 exact bodyPost_ret (results_cell_row rfl _ _ w.heap.size 169 #[Value.int .i64 1, Value.int .i64 n, Value.string ⟨#[]⟩, Value.slice none 0 0] (0, 0) _ rfl (Blk.new w 169 [.int .i64 1, .int .i64 n, .string ⟨#[]⟩, .slice none 0 0]) Tryz.underlying169 rfl sizeV) rfl ⟨rfl, (Below.refl _ w).alloc (Nat.le_refl _) _⟩

theorem encF_lt (x : FV) : ∀ u ∈ encF x, u < 256 := by
 cases x with
 | int m =>
  intro u hu
  rcases List.mem_cons.1 hu with rfl | h
  · omega
  · exact Cod.numl_lt _ u h
 | text s =>
  intro u hu
  rcases List.mem_cons.1 hu with rfl | h
  · omega
  · rcases List.mem_append.1 h with h | h
    · exact Cod.numl_lt _ u h
    · obtain ⟨b, _, rfl⟩ := List.mem_map.1 h
      exact b.toNat_lt
theorem encL_lt (l : List FV) : ∀ u ∈ encL l, u < 256 := by
 intro u hu
 rcases List.mem_cons.1 hu with rfl | h
 · omega
 · rcases List.mem_append.1 h with h | h
   · exact Cod.numl_lt _ u h
   · obtain ⟨q, hq, hu⟩ := List.mem_flatten.1 h
     obtain ⟨x, _, rfl⟩ := List.mem_map.1 hq
     exact encF_lt x u hu
theorem txtD_len (D : List Nat) : (txtD D).size = D.length := by unfold txtD; rw [strOfNums_size, List.length_map]

def MsgS (w : World) (tb : Nat) (st fo no : Int) (D : List Nat) (wz : World) : Prop := wz.cell? ⟨tb, 0, none⟩ = some (.int .i64 st) ∧ wz.cell? ⟨tb, 1, none⟩ = some (.int .i64 fo) ∧ wz.cell? ⟨tb, 2, none⟩ = some (.int .i64 no) ∧ wz.rangeAt tb 3 (bv D) ∧ tb < wz.heap.size ∧ Below w.heap.size w wz
section
variable {w wz wq : World} {tb : Nat} {st fo no : Int} {D : List Nat}
theorem MsgS.next (hb : Below wz.heap.size wz wq) (h : MsgS w tb st fo no D wz) : MsgS w tb st fo no D wq :=
 ⟨(hb.cell (p := ⟨tb, 0, none⟩) h.2.2.2.2.1).trans h.1, (hb.cell (p := ⟨tb, 1, none⟩) h.2.2.2.2.1).trans h.2.1, (hb.cell (p := ⟨tb, 2, none⟩) h.2.2.2.2.1).trans h.2.2.1, fun j v hj => (hb.cell (p := ⟨tb, 3 + j, none⟩) h.2.2.2.2.1).trans (h.2.2.2.1 j v hj), Nat.lt_of_lt_of_le h.2.2.2.2.1 hb.size, h.2.2.2.2.2.trans (hb.mono h.2.2.2.2.2.size)⟩
theorem MsgS.nextB (hb : Below wz.heap.size wz wq) (h : wz.cell? ⟨tb, 0, none⟩ = some (.int .i64 st) ∧ wz.cell? ⟨tb, 1, none⟩ = some (.int .i64 fo) ∧ wz.cell? ⟨tb, 2, none⟩ = some (.int .i64 no) ∧ wz.rangeAt tb 3 (bv D) ∧ tb < wz.heap.size ∧ Below w.heap.size w wz) : wq.cell? ⟨tb, 0, none⟩ = some (.int .i64 st) ∧ wq.cell? ⟨tb, 1, none⟩ = some (.int .i64 fo) ∧ wq.cell? ⟨tb, 2, none⟩ = some (.int .i64 no) ∧ wq.rangeAt tb 3 (bv D) ∧ tb < wq.heap.size ∧ Below w.heap.size w wq := MsgS.next hb h
theorem MsgS.drewB (h : wz.cell? ⟨tb, 0, none⟩ = some (.int .i64 st) ∧ wz.cell? ⟨tb, 1, none⟩ = some (.int .i64 fo) ∧ wz.cell? ⟨tb, 2, none⟩ = some (.int .i64 no) ∧ wz.rangeAt tb 3 (bv D) ∧ tb < wz.heap.size ∧ Below w.heap.size w wz) : wz.drew.cell? ⟨tb, 0, none⟩ = some (.int .i64 st) ∧ wz.drew.cell? ⟨tb, 1, none⟩ = some (.int .i64 fo) ∧ wz.drew.cell? ⟨tb, 2, none⟩ = some (.int .i64 no) ∧ wz.drew.rangeAt tb 3 (bv D) ∧ tb < wz.drew.heap.size ∧ Below w.heap.size w wz.drew := MsgS.next (Below.refl _ wz).drew h
theorem MsgS.allocB (h : wz.cell? ⟨tb, 0, none⟩ = some (.int .i64 st) ∧ wz.cell? ⟨tb, 1, none⟩ = some (.int .i64 fo) ∧ wz.cell? ⟨tb, 2, none⟩ = some (.int .i64 no) ∧ wz.rangeAt tb 3 (bv D) ∧ tb < wz.heap.size ∧ Below w.heap.size w wz) (o : Obj) : (wz.alloc o).cell? ⟨tb, 0, none⟩ = some (.int .i64 st) ∧ (wz.alloc o).cell? ⟨tb, 1, none⟩ = some (.int .i64 fo) ∧ (wz.alloc o).cell? ⟨tb, 2, none⟩ = some (.int .i64 no) ∧ (wz.alloc o).rangeAt tb 3 (bv D) ∧ tb < (wz.alloc o).heap.size ∧ Below w.heap.size w (wz.alloc o) := MsgS.next ((Below.refl _ wz).alloc (Nat.le_refl _) o) h
end

theorem MsgS.box (w : World) (tb : Nat) (htb : w.heap.size = tb) (st fo no : Int) (D : List Nat) (R S : Int) : MsgS w tb st fo no D (w.alloc (.cells (headC st fo no D R S).toArray 36)) := by
 subst htb
 have h := Blk.new w 36 (headC st fo no D R S)
 refine ⟨h.at_ (i := 0) rfl, h.at_ (i := 1) rfl, h.at_ (i := 2) rfl, fun j v hj => ?_, h.lt, (Below.refl _ w).alloc (Nat.le_refl _) _⟩
 refine h.at_ (i := 3 + j) ?_
 unfold headC
 rw [List.getElem?_append_right (by simp)]
 simp only [List.length_cons, List.length_nil, Nat.add_sub_cancel_left]
 rw [List.getElem?_append_left (List.getElem?_eq_some_iff.1 hj).1]
 exact hj

set_option maxRecDepth 20000 in
set_option maxHeartbeats 4000000 in
theorem message_any (st fo no R S : Int) (D : List Nat) (hst : I64 st) (hfo : I64 fo) (hno : I64 no) (hD : D.length = 32 ∧ ∀ u ∈ D, u < 256) (w : World) (HT : Tabs w) :
 Calls Tryz.prog 84 #[.agg (headC st fo no D R S).toArray] w (MsgPost (headD st fo no D) w) := by
 have HT' := Lib.hid HT
 obtain ⟨tb, htb⟩ : ∃ tb, Hid (w.heap.size = tb) := ⟨_, rfl⟩
 have hS := MsgS.box w tb htb.out st fo no D R S
 have hsl := fun W => slice_at3 W tb
 have hok : Hid (∀ x ∈ [FV.int st, .int fo, .int no, .text (txtD D)], FVok x) := fun x hx => by
  simp only [List.mem_cons, List.not_mem_nil, or_false] at hx
  rcases hx with rfl | rfl | rfl | rfl
  · exact hst
  · exact hfo
  · exact hno
  · show (txtD D).size ≤ 1000
    rw [txtD_len, hD.1]; omega
 have hcv := fun W h => dig_text D hD.1 tb W h
 have hhd : Hid (Sha.tagged (octets ⟨#[104, 101, 97, 100]⟩) (encL [.int st, .int fo, .int no, .text (txtD D)]) = headD st fo no D) := rfl
 have henc : Hid (∀ x ∈ encL [FV.int st, .int fo, .int no, .text (txtD D)], x < 256) := encL_lt _
 have hel : Hid ((encL [FV.int st, .int fo, .int no, .text (txtD D)]).length ≤ 10000) := by
  have h1 := encs_len _ hok.out
  have h2 := Cod.numl_len64 (u := 0 + 1 + 1 + 1 + 1) (by omega)
  show (encL _).length ≤ 10000
  simp only [encL, List.length_cons, List.length_append, List.length_nil] at h1 h2 ⊢
  omega
 obtain ⟨T, hT⟩ : ∃ T, Hid (txtD D = T) := ⟨_, rfl⟩
 rw [hT.out] at hok hcv hhd henc hel
 have hM : Hid ((headD st fo no D).length = 32) := Sha.tagged_length _ _
 generalize headD st fo no D = M at *
 have hm1 := Lib.hid (fun n W => msg1_any n W)
 obtain ⟨r, hr⟩ : ∃ r, Hid (headC st fo no D R S = r) := ⟨_, rfl⟩
 have hone : ∀ u ∈ r, u.oneCell' = true := by
  rw [← hr.out]; unfold headC
  intro u hu
  rcases List.mem_append.1 hu with h | h
  · simp only [List.mem_cons, List.not_mem_nil, or_false] at h
    rcases h with rfl | rfl | rfl <;> rfl
  · rcases List.mem_append.1 h with h | h
    · exact bv_one D u h
    · simp only [List.mem_cons, List.not_mem_nil, or_false] at h
      rcases h with rfl | rfl <;> rfl
 rw [hr.out] at hS ⊢
 clear hT hr HT hst hfo hno hD
 go_enter Tryz.func84, Tryz.ntmps84
 go_wp2_with fail
 rw [htb.out]
 generalize w.alloc (.cells r.toArray 36) = w1 at *
 clear hone
 go_region_held3 (fun wz => wz.cell? ⟨tb, 0, none⟩ = some (.int .i64 st) ∧ wz.cell? ⟨tb, 1, none⟩ = some (.int .i64 fo) ∧ wz.cell? ⟨tb, 2, none⟩ = some (.int .i64 no) ∧ wz.rangeAt tb 3 (bv D) ∧ tb < wz.heap.size ∧ Below w.heap.size w wz) (repeat (first | assumption | apply MsgS.drewB | apply MsgS.allocB))
  (first
    | (go_at_call 131; refine (hm1.out _ _).mono ?_; rintro e wq ⟨rfl, hbq⟩; have hsq := MsgS.nextB hbq (by assumption))
     | (go_at_call 132; refine (Encode_any _ 4 4 [.int st, .int fo, .int no, .text T] hok.out _ ⟨Blk.new _ _ _, rfl, Nat.le_refl _, by omega, by omega⟩).mono ?_; rintro e wq ⟨v5, rfl, ho5, hbq⟩; have hsq := MsgS.nextB hbq (by assumption)))
 obtain ⟨a5, c5, rfl, hB5⟩ := BS.own ho5 henc.out
 have hb5 := Lib.hid hsq.2.2.2.2.2
 have hB5' := Lib.hid hB5
 have hel' := hel.out
 clear hB5 ho5 hsq hS hbq hm1 hok hcv hsl henc
 go_wp2_with fail
 refine (tagged_any ⟨#[104, 101, 97, 100]⟩ (by decide) _ _ _ _ _ (HT'.out.below hb5.out) hB5'.out (by omega)).mono ?_
 rintro e w8 ⟨rfl, hb8⟩
 have hb9 := Lib.hid (hb5.out.trans (hb8.mono hb5.out.size))
 rw [hhd.out]
 obtain ⟨W9, hP⟩ := put_dig (x := M) (Blk.new w8 32 (bv (List.replicate 32 0))) (by simp) hM.out
 have hbl : Hid (Blk W9 w8.heap.size 32 (bv M)) := hP.blk
 have hb10 : Hid (Below w.heap.size w W9) := below_grown (hb9.out.alloc hb9.out.size _) hP.grown (Nat.le_trans hb9.out.size (by simp)) hb9.out.size
 have s1 := fun W => slice_all W w8.heap.size
 obtain ⟨RES, hRES⟩ : ∃ RES, Hid (bv M = RES) := ⟨_, rfl⟩
 rw [hRES.out] at hP ⊢
 have hP' := Lib.hid hP
 clear hP hb8 hB5' hel hel' hhd hb9
 go_wp2_with (first
  | (refine wpList_store_mid (by rfl) 32 (.tmp 6) (.tmp 30) (by rfl) w8.heap.size 0 RES.toArray (by rfl) (by rfl) hP'.out.there hP'.out.info (by simpa using hP'.out.one) ?_
     generalize hW9 : World.setCells _ _ _ _ = Wa
     obtain rfl : W9 = Wa := by rw [← hW9]; exact hP'.out.eq
     clear hW9))
 go_ret
 exact ⟨_, rfl, hbl.out, hb10.out⟩
end Go.Proofs.YtnonfdcbnkdmcaaGreatDoor
