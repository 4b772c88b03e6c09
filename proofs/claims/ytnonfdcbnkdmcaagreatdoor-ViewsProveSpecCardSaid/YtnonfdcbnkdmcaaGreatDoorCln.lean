/- slices.Clone at []api.Entry and []api.Log -/
import Derived.Test.YtnonfdcbnkdmcaaGreatDoorRow
import Derived.Test.YtnonfdcbnkdmcaaGreatDoorChecked
import Derived.WalkKit
import Derived.WalkLawsBesides
import Derived.WalkSpells
import Derived.Lib.Hide
import Derived.Lib.SliceRun
namespace Go.Proofs.YtnonfdcbnkdmcaaGreatDoor
open Go.RowKit Go.Mem

theorem infoE : (Tryz.prog.info? 75).map (fun i => (i.zero, i.size, i.bytes)) = some (some (.agg #[.int .i64 0, .int .u8 0, .int .u8 0, .int .u8 0, .int .u8 0, .int .u8 0, .int .u8 0, .int .u8 0, .int .u8 0, .int .u8 0, .int .u8 0, .int .u8 0, .int .u8 0, .int .u8 0, .int .u8 0, .int .u8 0, .int .u8 0, .int .u8 0, .int .u8 0, .int .u8 0, .int .u8 0, .int .u8 0, .int .u8 0, .int .u8 0, .int .u8 0, .int .u8 0, .int .u8 0, .int .u8 0, .int .u8 0, .int .u8 0, .int .u8 0, .int .u8 0, .int .u8 0, .slice none 0 0, .bool false]), 35, 72) := by kernel_rfl
theorem sizeE : (Tryz.prog.info? 75).map (·.size) = some 35 := by kernel_rfl

set_option maxRecDepth 20000 in
set_option maxHeartbeats 1000000 in
theorem cloneE_any (a : Option Addr) (n c : Nat) (xs : List Value) (w : World) (H : Sl.Reads w a n c 35 xs) (h1 : ∀ u ∈ xs, u.oneCell' = true) (hb : n * 72 ≤ 140737488355328) :
    Calls Tryz.prog 78 #[.slice a n c] w (Sl.Owns w.heap.size 75 35 n xs w) := by
  have hnil := fun (W : World) => Lib.run_eql_slice_nil (P := Tryz.prog) W 30 75 a n c 0 0 Tryz.underlying30
  obtain ⟨i0, hi, hz0, hz1, hz2⟩ := info_parts infoE
  have hlen := H.len
  cases a with
  | none =>
    obtain ⟨rfl, rfl⟩ := H.nil rfl
    have hx : xs = [] := List.eq_nil_of_length_eq_zero (by simpa using hlen)
    subst hx
    clear hlen
    go_enter Tryz.func78, Tryz.ntmps78
    go_wp2
    go_ret
    exact ⟨_, rfl, World.ownsRow_nil _ _ _ _, Below.refl _ _⟩
  | some ad =>
    have hl := Lib.hid hlen
    clear hlen
    have hb' := Lib.hid hb
    clear hb
    go_enter Tryz.func78, Tryz.ntmps78
    go_wp2_with (at_builtin; refine wpList_append_own _ rfl _ _ 30 rfl w.heap.size 75 i0 _ 35 72 Tryz.underlying30 hi hz0 hz1 hz2 rfl (by decide) _ _ _ rfl (World.ownsRow_made (e := 75) (size := 35) w #[] 0 (Nat.le_refl _) (by unfold maxLen; omega) rfl) ad n c xs rfl hl.out (H.below (w' := w.alloc (.cells #[] 75)) ((Below.refl _ w).alloc (Nat.le_refl _) _) (Nat.le_refl _)).news h1 (by have := hb'.out; unfold maxLen; omega) (by have := hb'.out; omega) (by simp) ?_; intro v' w1 hown hgrow _)
    go_ret
    refine ⟨v', rfl, by simpa using hown, ((Below.refl _ w).alloc (Nat.le_refl _) _).grown hgrow (by simp) (fun k e => by cases e; exact Nat.le_refl _)⟩

theorem infoL : (Tryz.prog.info? 121).map (fun i => (i.zero, i.size, i.bytes)) = some (some (.agg #[.int .i64 0, .slice none 0 0]), 2, 32) := by kernel_rfl
theorem sizeL : (Tryz.prog.info? 121).map (·.size) = some 2 := by kernel_rfl

set_option maxRecDepth 20000 in
set_option maxHeartbeats 1000000 in
theorem cloneL_any (a : Option Addr) (n c : Nat) (xs : List Value) (w : World) (H : Sl.Reads w a n c 2 xs) (h1 : ∀ u ∈ xs, u.oneCell' = true) (hb : n * 32 ≤ 140737488355328) :
    Calls Tryz.prog 111 #[.slice a n c] w (Sl.Owns w.heap.size 121 2 n xs w) := by
  have hnil := fun (W : World) => Lib.run_eql_slice_nil (P := Tryz.prog) W 22 121 a n c 0 0 Tryz.underlying22
  obtain ⟨i0, hi, hz0, hz1, hz2⟩ := info_parts infoL
  have hlen := H.len
  cases a with
  | none =>
    obtain ⟨rfl, rfl⟩ := H.nil rfl
    have hx : xs = [] := List.eq_nil_of_length_eq_zero (by simpa using hlen)
    subst hx
    clear hlen
    go_enter Tryz.func111, Tryz.ntmps111
    go_wp2
    go_ret
    exact ⟨_, rfl, World.ownsRow_nil _ _ _ _, Below.refl _ _⟩
  | some ad =>
    have hl := Lib.hid hlen
    clear hlen
    have hb' := Lib.hid hb
    clear hb
    go_enter Tryz.func111, Tryz.ntmps111
    go_wp2_with (at_builtin; refine wpList_append_own _ rfl _ _ 22 rfl w.heap.size 121 i0 _ 2 32 Tryz.underlying22 hi hz0 hz1 hz2 rfl (by decide) _ _ _ rfl (World.ownsRow_made (e := 121) (size := 2) w #[] 0 (Nat.le_refl _) (by unfold maxLen; omega) rfl) ad n c xs rfl hl.out (H.below (w' := w.alloc (.cells #[] 121)) ((Below.refl _ w).alloc (Nat.le_refl _) _) (Nat.le_refl _)).news h1 (by have := hb'.out; unfold maxLen; omega) (by have := hb'.out; omega) (by simp) ?_; intro v' w1 hown hgrow _)
    go_ret
    refine ⟨v', rfl, by simpa using hown, ((Below.refl _ w).alloc (Nat.le_refl _) _).grown hgrow (by simp) (fun k e => by cases e; exact Nat.le_refl _)⟩
end Go.Proofs.YtnonfdcbnkdmcaaGreatDoor
