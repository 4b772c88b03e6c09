/- store.Digest, store.Chain -/
import Derived.Test.YthhblcbnnmoojaaGreatDoorTag
namespace Go.Proofs.YthhblcbnnmoojaaGreatDoor
open Go.RowKit Go.Mem

/-- the digest of an entry. -/
def entryD (kind : Int) (data : List Nat) : List Nat := Sha.tagged [101, 110, 116, 114, 121] ([(kind % 256).toNat] ++ data)
/-- the beginning of a chain. -/
def logD (folder : Int) : List Nat := Sha.tagged [108, 111, 103] [(folder % 256).toNat]
def chainD (folder : Int) (ds : List (List Nat)) : List Nat := ds.foldl Sha.chain (logD folder)

theorem one_bs {W : World} {g : Nat} {k : Int} (H : Blk W g 5 [.int .u8 (k % 256)]) : BS W (some ⟨g, 0, none⟩) 1 1 [(k % 256).toNat] := by
  have h : [Value.int .u8 (k % 256)] = bv [(k % 256).toNat] := by
    show _ = [Value.int .u8 _]
    rw [Int.toNat_of_nonneg (by omega)]
  rw [h] at H
  exact Blk.bs (pre := []) (post := []) (l := [(k % 256).toNat]) (c := 1) (by simpa using H) (by simp) (by omega) (by simp; omega)

/-- a slice of digests in memory. -/
structure DS (w : World) (a : Option Addr) (n c : Nat) (l : List (List Nat)) : Prop where
  len : l.length = n
  le : n ≤ c
  max : c ≤ 9223372036854775807
  nil : a = none → n = 0
  cells : 0 < n → ∀ ad, a = some ad → ∃ b off, ad = ⟨b, off, none⟩ ∧ b < w.heap.size ∧ ∀ (i : Nat) x, l[i]? = some x → w.rangeAt b (off + 32 * i) (bv x)
  ok : ∀ x ∈ l, x.length = 32 ∧ ∀ u ∈ x, u < 256
theorem DS.below {w w' : World} {a : Option Addr} {n c : Nat} {l : List (List Nat)} (h : DS w a n c l) (hb : Below w.heap.size w w') : DS w' a n c l :=
  ⟨h.len, h.le, h.max, h.nil, fun hn ad e => by
    obtain ⟨b, off, rfl, hlt, hx⟩ := h.cells hn ad e
    exact ⟨b, off, rfl, Nat.lt_of_lt_of_le hlt hb.size, fun i x hi j v hv => (hb.cell (p := ⟨b, _, none⟩) hlt).trans (hx i x hi j v hv)⟩, h.ok⟩

/-- what the store of a digest into its block asks and gives. -/
structure PutD (W W9 : World) (tb : Nat) (RES : List Value) : Prop where
  there : W.there tb 0 RES.toArray.size
  info : (Tryz.prog.info? 23).map (·.size) = some RES.toArray.size
  one : ∀ u ∈ RES, u.oneCell' = true
  eq : W9 = W.setCells tb 0 RES
  blk : Blk W9 tb 23 RES
  grown : W.grownBy W9 (some tb)
theorem put_dig {W : World} {tb : Nat} {x y : List Nat} (hD : Blk W tb 23 (bv y)) (hy : y.length = 32) (hx : x.length = 32) : ∃ W9, PutD W W9 tb (bv x) := by
  have hl0 : (bv x).length = 32 := by rw [bv_length, hx]
  have hi32 : (Tryz.prog.info? 23).map (·.size) = some (bv x).length := by rw [hl0]; exact size35
  obtain ⟨_, h1, h2⟩ := run_store_blk (P := Tryz.prog) (ty := 23) hD (vs := bv x) (by rw [hl0, bv_length, hy]) hi32 (bv_one _)
  refine ⟨_, ?_, by rw [List.size_toArray]; exact hi32, bv_one x, rfl, h1, h2⟩
  rw [List.size_toArray, hl0]
  have := hD.there
  rwa [bv_length, hy] at this

end Go.Proofs.YthhblcbnnmoojaaGreatDoor
