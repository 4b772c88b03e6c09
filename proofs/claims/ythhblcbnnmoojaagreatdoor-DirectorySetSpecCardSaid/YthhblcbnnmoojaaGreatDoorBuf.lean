/- (*directory.input): bytes that a call has gathered: numbers, digests, under -/
import Derived.Test.YthhblcbnnmoojaaGreatDoorSgn
import Derived.Test.YthhblcbnnmoojaaGreatDoorTag
import Derived.Test.YthhblcbnnmoojaaGreatDoorDrP
import Derived.Test.YthhblcbnnmoojaaGreatDoorShelf
import Derived.Lib.BufferAt
import Derived.Lib.OthersKept
namespace Go.Proofs.YthhblcbnnmoojaaGreatDoor
open Go.RowKit Go.Mem

/-- a buffer that holds bytes. -/
structure IB (B b : Nat) (bs : List Nat) (w : World) : Prop where
  buf : LibA.IsBuffer 85 (fun _ => none) 5 B b 0 (bv bs) w
  lt : ∀ u ∈ bs, u < 256
/-- what a write leaves as it was. -/
structure BF (B b : Nat) (w w' : World) : Prop where
  bel : Below B w w'
  kept : Lib.OthersKept 5 (some b) w w'
section
variable {B b : Nat} {bs : List Nat} {w w' w2 : World}
theorem BF.refl (B b : Nat) (w : World) : BF B b w w := ⟨Below.refl _ _, Lib.OthersKept.refl _ _ _⟩
theorem BF.trans (h : BF B b w w') (k : BF B b w' w2) : BF B b w w2 := ⟨h.bel.trans k.bel, h.kept.trans k.kept⟩
theorem BF.alloc (h : BF B b w w') (hB : B ≤ w'.heap.size) (o : Obj) : BF B b w (w'.alloc o) := ⟨h.bel.alloc hB o, h.kept.alloc o⟩
theorem BF.drew (h : BF B b w w') (_hB : B ≤ w'.heap.size) : BF B b w w'.drew := ⟨h.bel.drew, h.kept.drew⟩
theorem Blk.others {g : Nat} {t : TypeId} {cs : List Value} (h : Blk w g t cs) (hk : BF B b w w') (hg : g ≠ b) (ht : t ≠ 5) : Blk w' g t cs :=
  hk.kept g _ h (fun e => hg (Option.some.inj e)) (fun c fz e => by injection e with _ h2 _; exact ht h2)
theorem IB.lt' (h : IB B b bs w) : b < w.heap.size := h.buf.lt
theorem IB.alloc (h : IB B b bs w) (o : Obj) : IB B b bs (w.alloc o) := ⟨h.buf.alloc o, h.lt⟩
theorem IB.drew (h : IB B b bs w) : IB B b bs w.drew := ⟨h.buf.drew, h.lt⟩
theorem IB.old (h : IB B b bs w) (hb : Below w.heap.size w w') : IB B b bs w' := ⟨h.buf.old hb, h.lt⟩
theorem IB.mono {B' : Nat} (h : IB B b bs w) (hB : B' ≤ B) : IB B' b bs w := by
  obtain ⟨h1, v, lr, h3, ho, hn⟩ := h.buf
  exact ⟨⟨Nat.le_trans hB h1, v, lr, h3, Sl.owns_mono ho hB, hn⟩, h.lt⟩
theorem IB.new (w : World) : IB w.heap.size w.heap.size [] (w.alloc (.cells #[.slice none 0 0, .int .i64 0, .int .i8 0] 85)) :=
  ⟨LibA.zero_isBuffer (Nat.le_refl _) (LibA.three_whole (heap_alloc_new w _)), by simp⟩
end
theorem numI_at (x : Int) (j s : Nat) (hj : j < 8) (hs : 56 - 8 * j = s) : (numB x).drop j = (x / 2 ^ s % 256).toNat :: (numB x).drop (j + 1) := by
  rw [numB_at x j hj, hs, IntKind.wrap_u64]
  congr 2
  subst hs
  have : j = 0 ∨ j = 1 ∨ j = 2 ∨ j = 3 ∨ j = 4 ∨ j = 5 ∨ j = 6 ∨ j = 7 := by omega
  rcases this with rfl | rfl | rfl | rfl | rfl | rfl | rfl | rfl <;> omega
theorem byte_cell (y : Int) : [Value.int .u8 (y % 256)] = bv [(y % 256).toNat] := by
  show _ = [Value.int .u8 _]
  rw [Int.toNat_of_nonneg (by omega)]

theorem writeByte_any (B b : Nat) (bs : List Nat) (y : Int) (w : World) (H : IB B b bs w) (hB : B ≤ w.heap.size) (hl : bs.length + 1 ≤ 140737488355328) :
    Calls Tryz.prog 86 #[.pointer (some ⟨b, 0, none⟩), .int .u8 (y % 256)] w fun e w' => e = .returned .nilIface ∧ IB B b (bs ++ [(y % 256).toNat]) w' ∧ BF B b w w' := by
  refine (Tryz.Buffer_WriteByte_at _ _ B b 0 (bv bs) (y % 256) w H.buf hB (bv_one _) (by rw [bv_length]; exact hl)).mono ?_
  rintro e w' ⟨rfl, h1, h2, h3⟩
  refine ⟨rfl, ⟨?_, fun u hu => ?_⟩, h2, h3⟩
  · rw [bv_append, ← byte_cell]; exact h1
  · rcases List.mem_append.1 hu with h | h
    · exact H.lt u h
    · rw [List.mem_singleton] at h; omega

theorem write_any (B b : Nat) (bs : List Nat) (a : Addr) (n c : Nat) (l : List Nat) (w : World) (H : IB B b bs w) (hB : B ≤ w.heap.size) (hab : a.block ≠ b) (hs : BS w (some a) n c l) (hl : bs.length + n ≤ 140737488355328) :
    Calls Tryz.prog 124 #[.pointer (some ⟨b, 0, none⟩), .slice (some a) n c] w fun e w' => (∃ v, e = .returned v) ∧ IB B b (bs ++ l) w' ∧ BF B b w w' := by
  refine (Tryz.Buffer_Write_at _ _ B b 0 (bv bs) (bv l) a n c w H.buf hB (bv_one _) (by rw [bv_length]; exact hs.len) hab (fun j v hj => BS.news hs j v hj) (bv_one _) (by rw [bv_length]; exact hl)).mono ?_
  rintro e w' ⟨rfl, h1, h2, h3⟩
  refine ⟨⟨_, rfl⟩, ⟨?_, fun u hu => ?_⟩, h2, h3⟩
  · rw [bv_append]; exact h1
  · rcases List.mem_append.1 hu with h | h
    · exact H.lt u h
    · exact hs.lt u h
end Go.Proofs.YthhblcbnnmoojaaGreatDoor
