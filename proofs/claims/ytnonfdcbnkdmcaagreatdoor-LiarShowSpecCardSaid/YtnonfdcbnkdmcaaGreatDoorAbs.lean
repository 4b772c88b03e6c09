/- the hash: a block is absorbed -/
import Derived.Test.YtnonfdcbnkdmcaaGreatDoorDig2
import Derived.StillTailTactics
import Derived.IntWalk
import Derived.Test.YtnonfdcbnkdmcaaGreatDoorSl
import Derived.RegionTactic
namespace Sha
theorem fill_step (L : List Nat) (k N x : Nat) (hk : k < N) (hL : L[k]? = some x) : (L.take k ++ List.replicate (N - k) 0).set k x = L.take (k + 1) ++ List.replicate (N - (k + 1)) 0 := by
 have hl := (List.getElem?_eq_some_iff.1 hL).1
 have hx := (List.getElem?_eq_some_iff.1 hL).2
 rw [List.set_append_right _ _ (by rw [List.length_take]; omega), List.length_take, Nat.min_eq_left (by omega), Nat.sub_self, show N - k = (N - (k + 1)) + 1 by omega, List.replicate_succ, List.set_cons_zero, List.take_succ_eq_append_getElem hl, hx]
 simp
theorem fill_snoc (L : List Nat) (k N x : Nat) (hk : k < N) (hL : L.length = k) : (L ++ List.replicate (N - k) 0).set k x = (L ++ [x]) ++ List.replicate (N - (k + 1)) 0 := by
 rw [List.set_append_right _ _ (by omega), hL, Nat.sub_self, show N - k = (N - (k + 1)) + 1 by omega, List.replicate_succ, List.set_cons_zero]
 simp
theorem words_length (l : List Nat) : (words l).length = 16 := by simp [words]
theorem words_get (l : List Nat) {k : Nat} (hk : k < 16) : (words l)[k]? = some (word l (4 * k)) := by
 simp [words, hk]
theorem ext_succ (n : Nat) (l : List Nat) : ext (n + 1) l = ext n (l ++ [next l]) := rfl
end Sha
namespace Go.Proofs.YtnonfdcbnkdmcaaGreatDoor
open Go.RowKit Go.Mem

def stv (s : Sha.St) : List Nat := [s.a, s.b, s.c, s.d, s.e, s.f, s.g, s.h]

theorem ss0_parts (x : Nat) (hx : x < 4294967296) : ∃ a b m S, Sha.ror x 7 = a ∧ Sha.ror x 18 = b ∧ Sha.ss0 x = S ∧ S < 4294967296 ∧ bits .xor .u32 (a : Int) (b : Int) = ((m : Nat) : Int) ∧ bits .xor .u32 (m : Int) ((x : Int) / 8) = (S : Int) := by
 have la := Sha.ror_lt x 7 hx
 have lb := Sha.ror_lt x 18 hx
 refine ⟨_, _, Sha.ror x 7 ^^^ Sha.ror x 18, _, rfl, rfl, rfl, Sha.ss0_lt x hx, u32_xor_nat _ _ la lb, ?_⟩
 exact u32_xor_nat (Sha.ror x 7 ^^^ Sha.ror x 18) (x / 8) (Sha.xor_lt la lb) (by omega)
theorem ss1_parts (x : Nat) (hx : x < 4294967296) : ∃ a b m S, Sha.ror x 17 = a ∧ Sha.ror x 19 = b ∧ Sha.ss1 x = S ∧ S < 4294967296 ∧ bits .xor .u32 (a : Int) (b : Int) = ((m : Nat) : Int) ∧ bits .xor .u32 (m : Int) ((x : Int) / 1024) = (S : Int) := by
 have la := Sha.ror_lt x 17 hx
 have lb := Sha.ror_lt x 19 hx
 refine ⟨_, _, Sha.ror x 17 ^^^ Sha.ror x 19, _, rfl, rfl, rfl, Sha.ss1_lt x hx, u32_xor_nat _ _ la lb, ?_⟩
 exact u32_xor_nat (Sha.ror x 17 ^^^ Sha.ror x 19) (x / 1024) (Sha.xor_lt la lb) (by omega)
theorem add_parts (x y : Nat) : ∃ z, (x + y) % 4294967296 = z ∧ z < 4294967296 ∧ IntKind.u32.wrap ((x : Int) + (y : Int)) = (z : Int) ∧ ((x : Int) + (y : Int)) % 4294967296 = (z : Int) :=
 ⟨_, rfl, Nat.mod_lt _ (by decide), by rw [IntKind.wrap_u32']; omega, by omega⟩

theorem round_parts (v : Sha.St) (h : v.Ok) (K W : Nat) : ∃ rA m1 m2 cv t1 t2 t3 p rB n1 n2 n3 mv q d' a' : Nat,
 Sha.rot3 v.e 6 11 25 = rA ∧ Sha.rot3 v.a 2 13 22 = rB ∧
 (bits .xor .u32 (v.f : Int) (v.g : Int) = (m1 : Int) ∧ bits .and .u32 (v.e : Int) (m1 : Int) = (m2 : Int) ∧ bits .xor .u32 (v.g : Int) (m2 : Int) = (cv : Int)) ∧
 ((IntKind.u32.wrap ((v.h : Int) + (rA : Int)) = (t1 : Int) ∧ IntKind.u32.wrap ((t1 : Int) + (cv : Int)) = (t2 : Int) ∧ IntKind.u32.wrap ((t2 : Int) + (K : Int)) = (t3 : Int) ∧ IntKind.u32.wrap ((t3 : Int) + (W : Int)) = (p : Int)) ∧
  (((v.h : Int) + (rA : Int)) % 4294967296 = (t1 : Int) ∧ ((t1 : Int) + (cv : Int)) % 4294967296 = (t2 : Int) ∧ ((t2 : Int) + (K : Int)) % 4294967296 = (t3 : Int) ∧ ((t3 : Int) + (W : Int)) % 4294967296 = (p : Int))) ∧
 (bits .and .u32 (v.a : Int) (v.b : Int) = (n1 : Int) ∧ bits .or .u32 (v.a : Int) (v.b : Int) = (n2 : Int) ∧ bits .and .u32 (v.c : Int) (n2 : Int) = (n3 : Int) ∧ bits .or .u32 (n1 : Int) (n3 : Int) = (mv : Int)) ∧
 (IntKind.u32.wrap ((rB : Int) + (mv : Int)) = (q : Int) ∧ ((rB : Int) + (mv : Int)) % 4294967296 = (q : Int)) ∧
 (IntKind.u32.wrap ((v.d : Int) + (p : Int)) = (d' : Int) ∧ ((v.d : Int) + (p : Int)) % 4294967296 = (d' : Int)) ∧
 (IntKind.u32.wrap ((p : Int) + (q : Int)) = (a' : Int) ∧ ((p : Int) + (q : Int)) % 4294967296 = (a' : Int)) ∧
 stv (Sha.rnd v K W) = [a', v.a, v.b, v.c, d', v.e, v.f, v.g] := by
 refine ⟨_, v.f ^^^ v.g, v.e &&& (v.f ^^^ v.g), Sha.ch v.e v.f v.g, (v.h + Sha.rot3 v.e 6 11 25) % 4294967296, (v.h + Sha.rot3 v.e 6 11 25 + Sha.ch v.e v.f v.g) % 4294967296, (v.h + Sha.rot3 v.e 6 11 25 + Sha.ch v.e v.f v.g + K) % 4294967296, Sha.pp v K W, _,
  v.a &&& v.b, v.a ||| v.b, v.c &&& (v.a ||| v.b), Sha.maj v.a v.b v.c, Sha.qq v, (v.d + Sha.pp v K W) % 4294967296, (Sha.pp v K W + Sha.qq v) % 4294967296, rfl, rfl, ⟨?_, ?_, ?_⟩, ⟨⟨?_, ?_, ?_, ?_⟩, ?_, ?_, ?_, ?_⟩, ⟨?_, ?_, ?_, ?_⟩, ⟨?_, ?_⟩, ⟨?_, ?_⟩, ⟨?_, ?_⟩, rfl⟩
 · exact u32_xor_nat _ _ h.f h.g
 · exact u32_and_nat _ _ h.e (Sha.xor_lt h.f h.g)
 · exact u32_xor_nat _ _ h.g (Sha.and_lt (Sha.xor_lt h.f h.g))
 · rw [IntKind.wrap_u32']; omega
 · rw [IntKind.wrap_u32']; omega
 · rw [IntKind.wrap_u32']; omega
 · rw [IntKind.wrap_u32']; unfold Sha.pp; omega
 · omega
 · omega
 · omega
 · unfold Sha.pp; omega
 · exact u32_and_nat _ _ h.a h.b
 · exact u32_or_nat _ _ h.a h.b
 · exact u32_and_nat _ _ h.c (Sha.or_lt h.a h.b)
 · exact u32_or_nat _ _ (Sha.and_lt h.b) (Sha.and_lt (Sha.or_lt h.a h.b))
 · rw [IntKind.wrap_u32']; unfold Sha.qq; omega
 · unfold Sha.qq; omega
 · rw [IntKind.wrap_u32']; omega
 · omega
 · rw [IntKind.wrap_u32']; omega
 · omega

theorem plus_step (s v : Sha.St) {k x y : Nat} (hx : (stv s)[k]? = some x) (hy : (stv v)[k]? = some y) :
 ((stv (Sha.plus s v)).take k ++ (stv s).drop k).set k ((x + y) % 4294967296) = (stv (Sha.plus s v)).take (k + 1) ++ (stv s).drop (k + 1) := by
 have hk : k < 8 := (List.getElem?_eq_some_iff.1 hx).1
 have h8 : k = 0 ∨ k = 1 ∨ k = 2 ∨ k = 3 ∨ k = 4 ∨ k = 5 ∨ k = 6 ∨ k = 7 := by omega
 rcases h8 with rfl | rfl | rfl | rfl | rfl | rfl | rfl | rfl <;> (cases hx; cases hy; rfl)
theorem plus_get (s v : Sha.St) {k x : Nat} (hx : (stv s)[k]? = some x) : ((stv (Sha.plus s v)).take k ++ (stv s).drop k)[k]? = some x := by
 have hk : k < 8 := (List.getElem?_eq_some_iff.1 hx).1
 rw [List.getElem?_append_right (by simp; omega), List.length_take, show min k (stv (Sha.plus s v)).length = k from Nat.min_eq_left (by show k ≤ 8; omega), Nat.sub_self, List.getElem?_drop, Nat.add_zero]
 exact hx

theorem size125 : (Tryz.prog.info? 209).map (·.size) = some 1 := by kernel_rfl

theorem word_val (l : List Nat) (j : Nat) (h : j + 4 ≤ l.length) : valB ((l.drop j).take 4) = Sha.word l j := by
 have h0 : l.drop j = l[j] :: l.drop (j + 1) := List.drop_eq_getElem_cons (by omega)
 have h1 : l.drop (j + 1) = l[j + 1] :: l.drop (j + 1 + 1) := List.drop_eq_getElem_cons (by omega)
 have h2 : l.drop (j + 1 + 1) = l[j + 2] :: l.drop (j + 1 + 1 + 1) := List.drop_eq_getElem_cons (by omega)
 have h3 : l.drop (j + 1 + 1 + 1) = l[j + 3] :: l.drop (j + 1 + 1 + 1 + 1) := List.drop_eq_getElem_cons (by omega)
 rw [h0, h1, h2, h3]
 simp only [List.take_succ_cons, List.take_zero, valB, List.foldl_cons, List.foldl_nil, Sha.word, Sha.get, List.getD_eq_getElem?_getD, List.getElem?_eq_getElem (show j < l.length by omega), List.getElem?_eq_getElem (show j + 1 < l.length by omega), List.getElem?_eq_getElem (show j + 2 < l.length by omega), List.getElem?_eq_getElem (show j + 3 < l.length by omega), Option.getD_some]
 omega
theorem word_lt (l : List Nat) (hl : ∀ x ∈ l, x < 256) (j : Nat) (h : j + 4 ≤ l.length) : Sha.word l j < 4294967296 := by
 rw [← word_val l j h]
 have h1 := valB_lt ((l.drop j).take 4) (fun x hx => hl x (List.mem_of_mem_drop (List.mem_of_mem_take hx)))
 rw [List.length_take, List.length_drop, Nat.min_eq_left (by omega)] at h1
 exact h1

def KTab (w : World) : Prop := 1 < w.heap.size ∧ ∀ (i : Nat) x, Sha.K[i]? = some x → w.cell? ⟨1, i, none⟩ = some (.int .u32 ((x : Nat) : Int))

def AbsPost (sb : Nat) (s : Sha.St) (w : World) (e : Ending) (w' : World) : Prop := e = .returned (.tuple #[]) ∧ Blk w' sb 211 (wv (stv s)) ∧ w.grownBy w' (some sb)

set_option maxHeartbeats 4000000 in
set_option maxRecDepth 100000 in
theorem absorb_any (sb b off c : Nat) (s : Sha.St) (l : List Nat) (w : World) (HS : Blk w sb 211 (wv (stv s))) (hok : s.Ok)
 (H : ∀ (i : Nat) x, l[i]? = some x → w.cell? ⟨b, off + i, none⟩ = some (.int .u8 (x : Int))) (hl : l.length = 64) (hlt : ∀ x ∈ l, x < 256) (hb : b < w.heap.size) (hc : 64 ≤ c) (hmx : c ≤ 9223372036854775807) (HK : KTab w) :
 Calls Tryz.prog 188 #[.pointer (some ⟨sb, 0, none⟩), .slice (some ⟨b, off, none⟩) 64 c] w (AbsPost sb (Sha.comp s l) w) := by
 go_enter Tryz.func188, Tryz.ntmps188
 go_wp2_with fail
 generalize hW0 : w.alloc _ = W0
 have B0 : Blk W0 w.heap.size 232 (wv (List.replicate 64 0)) := by rw [← hW0]; exact Blk.new w _ _
 have hb0 : Below w.heap.size w W0 := by rw [← hW0]; exact (Below.refl _ _).alloc (Nat.le_refl _) _
 have hs0 : W0.heap.size = w.heap.size + 1 := by rw [← hW0]; simp
 clear hW0
 obtain ⟨wb, hwb⟩ : ∃ wb, w.heap.size = wb := ⟨_, rfl⟩
 rw [hwb] at B0 hb0 hs0 hb ⊢
 have hb0' := Lib.hid hb0; have hs0' := Lib.hid hs0; have B0' := Lib.hid B0; have hwb' := Lib.hid hwb
 clear hb0 hs0 B0 hwb
 have hc1 : (64 : Int) ≤ (c : Int) := by omega
 have hmx' := hmx
 go_loopw [14] (fun i wr => ∃ k : Nat, k ≤ 16 ∧ i = .int .i64 k ∧ Blk wr wb 232 (wv ((Sha.words l).take k ++ List.replicate (64 - k) 0)) ∧ W0.grownBy wr (some wb)) (fun i _ => 16 - (intOf i).toNat)
 case atStart => exact ⟨0, by omega, rfl, by simpa using B0'.out, World.grownBy.refl W0 _⟩
 case round =>
  obtain ⟨k, hk, rfl, hB, hG⟩ := hrel
  by_cases hlt1 : k < 16
  · have k0 : (0 : Int) ≤ (k : Int) := by omega
    have k1 : (k : Int) < 16 := by omega
    have hcne : ¬ (c : Int) = 4 * (k : Int) := by omega
    have hcne2 : ¬ c = 4 * k := by omega
    have hB' := Lib.hid hB
    clear hB
    go_wp2_with fail
    refine (word_any b (off + 4 * k) (64 - 4 * k) (c - 4 * k) ((l.drop (4 * k)).take 4) wr ?_ (by rw [List.length_take, List.length_drop, hl]; omega) (fun x hx => hlt x (List.mem_of_mem_drop (List.mem_of_mem_take hx))) (by omega) (by omega) (by omega)).mono ?_
    · intro i x hi
      have hi4 : i < 4 := by have := (List.getElem?_eq_some_iff.1 hi).1; rw [List.length_take] at this; omega
      rw [List.getElem?_take_of_lt hi4, List.getElem?_drop] at hi
      rw [Nat.add_assoc]
      exact (World.cell?_of_block (hG.block b (by rw [hs0'.out]; omega) (fun e => by cases e; omega))).trans ((hb0'.out.cell (p := ⟨b, _, none⟩) hb).trans (H _ _ hi))
    · rintro e w' ⟨rfl, rfl⟩
      rw [word_val l (4 * k) (by omega)]
      have hw := Sha.words_get l hlt1
      obtain ⟨x, hx⟩ : ∃ x, Sha.word l (4 * k) = x := ⟨_, rfl⟩
      rw [hx] at hw ⊢
      have hfs := Lib.hid (Sha.fill_step (Sha.words l) k 64 x (by omega) hw)
      have hc0 := hB'.out.at_ (i := k) (x := .int .u32 ((0 : Nat) : Int)) (wv_get (by
       rw [List.getElem?_append_right (by rw [List.length_take]; omega), List.length_take, Sha.words_length, Nat.min_eq_left (by omega), Nat.sub_self]
       rw [List.getElem?_replicate, if_pos (by omega)]))
      have hf0 := hB'.out.frozen k
      have k1' : (k : Int) < 64 := by omega
      clear hx hw
      go_wp2_with fail
      go_roundw
      case rel => exact ⟨k + 1, by omega, by go_num, by rw [← hfs.out, ← wv_set]; exact hB'.out.set _ _, grown_set hG (.inl rfl) _⟩
      case measure => simp [intOf]; omega
  · obtain rfl : k = 16 := by omega
    rw [List.take_of_length_le (by rw [Sha.words_length]; omega)] at hB
    have hG1 := Lib.hid hG
    have hB1 := Lib.hid hB
    have hwl : ∀ x ∈ Sha.words l, x < 4294967296 := by
     intro x hx
     simp only [Sha.words, List.mem_map, List.mem_range] at hx
     obtain ⟨t, ht, rfl⟩ := hx
     exact word_lt l hlt _ (by omega)
    have hwl' := Lib.hid hwl
    obtain ⟨FIN, hF⟩ : ∃ FIN, Hid (Sha.ext 48 (Sha.words l) = FIN) := ⟨_, rfl⟩
    have hfin : Hid (Sha.ext (64 - 16) (Sha.words l) = FIN) := hF.out
    have hHd := Lib.hid H; have hltd := Lib.hid hlt
    clear hG hB hwl hk H hlt
    rw [show ((16 : Nat) : Int) = 16 from rfl]
    go_wp2_with fail
    go_loopw [6] (fun i wr => ∃ (k : Nat) (L : List Nat), 16 ≤ k ∧ k ≤ 64 ∧ i = .int .i64 k ∧ L.length = k ∧ (∀ x ∈ L, x < 4294967296) ∧ Blk wr wb 232 (wv (L ++ List.replicate (64 - k) 0)) ∧ Sha.ext (64 - k) L = FIN ∧ W0.grownBy wr (some wb)) (fun i _ => 64 - (intOf i).toNat)
    case atStart => exact ⟨16, Sha.words l, by omega, by omega, rfl, Sha.words_length l, hwl'.out, hB1.out, hfin.out, hG1.out⟩
    case round =>
     obtain ⟨k, L, hk16, hk, rfl, hLl, hLlt, hB, hex, hG⟩ := hrel
     by_cases hlt2 : k < 64
     · have hB' := Lib.hid hB
       have hG' := Lib.hid hG
       have hL' := Lib.hid hLl
       have g : ∀ d : Nat, 1 ≤ d → d ≤ 16 → ∃ x, Sha.get L (k - d) = x ∧ x < 4294967296 ∧ wr.cell? ⟨wb, k - d, none⟩ = some (.int .u32 (x : Int)) := by
        intro d hd1 hd2
        have hi : k - d < L.length := by omega
        refine ⟨L[k - d], ?_, hLlt _ (List.getElem_mem hi), ?_⟩
        · unfold Sha.get; rw [List.getD_eq_getElem?_getD, List.getElem?_eq_getElem hi]; rfl
        · exact hB'.out.at_ (wv_get (by rw [List.getElem?_append_left hi, List.getElem?_eq_getElem hi]))
       obtain ⟨x16, e16, l16, c16⟩ := g 16 (by omega) (by omega)
       obtain ⟨x15, e15, l15, c15⟩ := g 15 (by omega) (by omega)
       obtain ⟨x7, e7, l7, c7⟩ := g 7 (by omega) (by omega)
       obtain ⟨x2, e2, l2, c2⟩ := g 2 (by omega) (by omega)
       have hnx : Hid (Sha.next L = (x16 + Sha.ss0 x15 + x7 + Sha.ss1 x2) % 4294967296) := by show _ = _; unfold Sha.next; rw [hLl, e16, e15, e7, e2]
       have s16 : (k : Int) - 16 = ((k - 16 : Nat) : Int) := by omega
       have s15 : (k : Int) - 15 = ((k - 15 : Nat) : Int) := by omega
       have s7 : (k : Int) - 7 = ((k - 7 : Nat) : Int) := by omega
       have s2 : (k : Int) - 2 = ((k - 2 : Nat) : Int) := by omega
       obtain ⟨k16, q16⟩ : ∃ x, k - 16 = x := ⟨_, rfl⟩
       obtain ⟨k15, q15⟩ : ∃ x, k - 15 = x := ⟨_, rfl⟩
       obtain ⟨k7, q7⟩ : ∃ x, k - 7 = x := ⟨_, rfl⟩
       obtain ⟨k2, q2⟩ : ∃ x, k - 2 = x := ⟨_, rfl⟩
       rw [q16] at s16 c16; rw [q15] at s15 c15; rw [q7] at s7 c7; rw [q2] at s2 c2
       have b16 : (k16 : Int) < 64 := by omega
       have b15 : (k15 : Int) < 64 := by omega
       have b7 : (k7 : Int) < 64 := by omega
       have b2 : (k2 : Int) < 64 := by omega
       have p16 : (0 : Int) ≤ (k16 : Int) := by omega
       have p15 : (0 : Int) ≤ (k15 : Int) := by omega
       have p7 : (0 : Int) ≤ (k7 : Int) := by omega
       have p2 : (0 : Int) ≤ (k2 : Int) := by omega
       have kk : (k : Int) < 64 := by omega
       have hLlt' := Lib.hid hLlt
       have hex' := Lib.hid hex
       obtain ⟨a7, a18, m0, S0, ra, rb, eS0, lS0, f1, f2⟩ := ss0_parts x15 l15
       obtain ⟨a17, a19, m1, S1, rc, rd, eS1, lS1, f3, f4⟩ := ss1_parts x2 l2
       obtain ⟨t1, et1, lt1, u1, v1⟩ := add_parts x16 S0
       obtain ⟨t2, et2, lt2, u2, v2⟩ := add_parts t1 x7
       obtain ⟨t3, et3, lt3, u3, v3⟩ := add_parts t2 S1
       have hnx' : Hid (Sha.next L = t3) := by show _ = _; rw [hnx.out, eS0, eS1]; omega
       have R1 : Hid (∀ W, Calls Tryz.prog 212 #[.int .u32 (x15 : Int), .int .i64 (-7)] W fun e w' => e = .returned (.int .u32 (a7 : Int)) ∧ W = w') := fun W => by rw [← ra]; exact rot_any x15 25 7 (-7) W l15 (by omega) (by omega) (by omega) (by decide +kernel)
       have R2 : Hid (∀ W, Calls Tryz.prog 212 #[.int .u32 (x15 : Int), .int .i64 (-18)] W fun e w' => e = .returned (.int .u32 (a18 : Int)) ∧ W = w') := fun W => by rw [← rb]; exact rot_any x15 14 18 (-18) W l15 (by omega) (by omega) (by omega) (by decide +kernel)
       have R3 : Hid (∀ W, Calls Tryz.prog 212 #[.int .u32 (x2 : Int), .int .i64 (-17)] W fun e w' => e = .returned (.int .u32 (a17 : Int)) ∧ W = w') := fun W => by rw [← rc]; exact rot_any x2 15 17 (-17) W l2 (by omega) (by omega) (by omega) (by decide +kernel)
       have R4 : Hid (∀ W, Calls Tryz.prog 212 #[.int .u32 (x2 : Int), .int .i64 (-19)] W fun e w' => e = .returned (.int .u32 (a19 : Int)) ∧ W = w') := fun W => by rw [← rd]; exact rot_any x2 13 19 (-19) W l2 (by omega) (by omega) (by omega) (by decide +kernel)
       have z0 : (0 : Int) ≤ (x15 : Int) := by omega
       have z2 : (0 : Int) ≤ (x2 : Int) := by omega
       have hck := hB'.out.at_ (i := k) (x := .int .u32 ((0 : Nat) : Int)) (wv_get (by rw [List.getElem?_append_right (by omega), hLl, Nat.sub_self, List.getElem?_replicate, if_pos (by omega)]))
       have hfk := hB'.out.frozen k
       clear g e16 e15 e7 e2 q16 q15 q7 q2 hB hG hLl hLlt hex hnx ra rb rc rd eS0 eS1 et1 et2 et3
       go_wp2_with fail
       go_quiet (fail)
       go_wp2_with fail
       generalize hwd : wr.drewN nq = wd
       replace c16 : wd.cell? ⟨wb, k16, none⟩ = some (.int .u32 (x16 : Int)) := by rw [← hwd]; exact c16
       replace c7 : wd.cell? ⟨wb, k7, none⟩ = some (.int .u32 (x7 : Int)) := by rw [← hwd]; exact c7
       replace hck : wd.cell? ⟨wb, k, none⟩ = some (.int .u32 ((0 : Nat) : Int)) := by rw [← hwd]; exact hck
       replace hfk : wd.frozen? ⟨wb, k, none⟩ = false := by rw [← hwd]; exact hfk
       have hBd : Hid (Blk wd wb 232 (wv (L ++ List.replicate (64 - k) 0))) := by show Blk _ _ _ _; rw [← hwd]; exact hB'.out.drewN nq
       have hGd : Hid (W0.grownBy wd (some wb)) := by show World.grownBy _ _ _; rw [← hwd]; exact grown_drewN hG'.out nq
       clear hwd hB' hG' c15 c2
       have w16 : IntKind.i64.wrap (k16 : Int) = (k16 : Int) := IntWalk.i64_in _ ⟨by omega, by omega⟩
       have w7 : IntKind.i64.wrap (k7 : Int) = (k7 : Int) := IntWalk.i64_in _ ⟨by omega, by omega⟩
       go_still_tail 29, (by kernel_rfl)
       repeat still_step
       still_call ((Hid.out R1 _).mono fun _ _ h => ⟨h.1, h.2.symm⟩)
       repeat still_step
       still_call ((Hid.out R2 _).mono fun _ _ h => ⟨h.1, h.2.symm⟩)
       repeat still_step
       still_call ((Hid.out R3 _).mono fun _ _ h => ⟨h.1, h.2.symm⟩)
       repeat still_step
       still_call ((Hid.out R4 _).mono fun _ _ h => ⟨h.1, h.2.symm⟩)
       repeat still_step
       refine wpStill_nil ?_
       change wpList _ _ _ _ _ wd.drew
       have hset : Hid ((L ++ List.replicate (64 - k) 0).set k t3 = (L ++ [t3]) ++ List.replicate (64 - (k + 1)) 0) := Sha.fill_snoc L k 64 t3 hlt2 hL'.out
       go_wp2_with fail
       go_roundw
       case rel =>
        refine ⟨k + 1, L ++ [t3], by omega, by omega, by go_num, by rw [List.length_append, hL'.out]; rfl, fun x hx => ?_, ?_, ?_, ?_⟩
        · rcases List.mem_append.1 hx with h | h
          · exact hLlt'.out x h
          · simp at h; omega
        · rw [← hset.out, ← wv_set]; exact Blk.set (hBd.out.drewN 1) k _
        · rw [← hnx'.out, ← Sha.ext_succ, show 64 - (k + 1) + 1 = 64 - k by omega]; exact hex'.out
        · exact grown_set (grown_drewN hGd.out 1) (.inl rfl) _
       case measure => simp [intOf]; omega
     · obtain rfl : k = 64 := by omega
       obtain rfl : L = FIN := hex
       rw [Nat.sub_self, List.replicate_zero, List.append_nil] at hB
       have hB2 := Lib.hid hB; have hG2 := Lib.hid hG; have hL2 := Lib.hid hLl; have hLlt2 := Lib.hid hLlt
       clear hB hG hLl hLlt hk16 hk
       rw [show ((64 : Nat) : Int) = 64 from rfl]
       have hsl : sb < wb := by rw [← hwb'.out]; exact HS.lt
       have HS1 := (HS.below hb0'.out hsl).grown hG2.out (fun e => by cases e; omega)
       have s0 := HS1.at_ (i := 0) (x := .int .u32 (s.a : Int)) rfl
       have s1 := HS1.at_ (i := 1) (x := .int .u32 (s.b : Int)) rfl
       have s2 := HS1.at_ (i := 2) (x := .int .u32 (s.c : Int)) rfl
       have s3 := HS1.at_ (i := 3) (x := .int .u32 (s.d : Int)) rfl
       have s4 := HS1.at_ (i := 4) (x := .int .u32 (s.e : Int)) rfl
       have s5 := HS1.at_ (i := 5) (x := .int .u32 (s.f : Int)) rfl
       have s6 := HS1.at_ (i := 6) (x := .int .u32 (s.g : Int)) rfl
       have s7 := HS1.at_ (i := 7) (x := .int .u32 (s.h : Int)) rfl
       have HS1' := Lib.hid HS1
       have HS' := Lib.hid HS
       clear HS1 HS
       go_wp2_with fail
       obtain ⟨vb, hvb⟩ : ∃ vb, Hid (wr.heap.size = vb) := ⟨_, rfl⟩
       obtain ⟨W1, hW1⟩ : ∃ W1, W1 = wr.alloc (.cells (wv (stv s)).toArray 211) := ⟨_, rfl⟩
       have V0 : Blk W1 vb 211 (wv (stv s)) := by rw [hW1, ← hvb.out]; exact Blk.new wr _ _
       have hwbr : wb < wr.heap.size := hB2.out.lt
       have hbr : Below wb w wr := below_grown hb0'.out hG2.out (by rw [hs0'.out]; omega) (Nat.le_refl _)
       have hbW1 : Below wb w W1 := by rw [hW1]; exact hbr.alloc (by omega) _
       have hLW1 : Blk W1 wb 232 (wv L) := by rw [hW1]; exact hB2.out.alloc _
       have hSW1 : Blk W1 sb 211 (wv (stv s)) := by rw [hW1]; exact HS1'.out.alloc _
       rw [hvb.out]
       change Code.wp _ _ _ _ (wr.alloc (.cells (wv (stv s)).toArray 211))
       rw [← hW1]
       obtain ⟨VF, hVF⟩ : ∃ VF, Hid (Sha.rnds s Sha.K L = VF) := ⟨_, rfl⟩
       have hk1w : 1 < wb := by rw [← hwb'.out]; exact HK.1
       have V0' := Lib.hid V0; have hbW1' := Lib.hid hbW1; have hLW1' := Lib.hid hLW1; have hSW1' := Lib.hid hSW1; have HK' := Lib.hid HK; have hokd := Lib.hid hok
       have hvbw : wb < vb := by rw [← hvb.out]; exact hwbr
       clear V0 hbW1 hLW1 hSW1 HK hok s0 s1 s2 s3 s4 s5 s6 s7 hW1 hbr hwbr
       go_loopw [69] (fun i wq => ∃ (k : Nat) (v : Sha.St), k ≤ 64 ∧ i = .int .i64 k ∧ v.Ok ∧ Blk wq vb 211 (wv (stv v)) ∧ Sha.rnds v (Sha.K.drop k) (L.drop k) = VF ∧ W1.grownBy wq (some vb)) (fun i _ => 64 - (intOf i).toNat)
       case atStart => exact ⟨0, s, by omega, rfl, hokd.out, V0'.out, hVF.out, World.grownBy.refl W1 _⟩
       case round =>
        obtain ⟨k, v, hk, rfl, hvok, hBv, hrn, hG⟩ := hrel
        by_cases hlt3 : k < 64
        · have hKl : k < Sha.K.length := by rw [Sha.K_length]; exact hlt3
          have hLk : k < L.length := by rw [hL2.out]; exact hlt3
          have hck := HK'.out.2 k _ (List.getElem?_eq_getElem hKl)
          have ck : wr.cell? ⟨1, k, none⟩ = some (.int .u32 ((Sha.K[k] : Nat) : Int)) := by
           rw [World.cell?_of_block (hG.block 1 (by have := hbW1'.out.size; rw [hwb'.out] at this; omega) (fun e => by cases e; omega))]
           rw [hbW1'.out.cell (p := ⟨1, k, none⟩) hk1w]
           exact hck
          have cx : wr.cell? ⟨wb, k, none⟩ = some (.int .u32 ((L[k] : Nat) : Int)) := (hLW1'.out.grown hG (fun e => by cases e; omega)).at_ (wv_get (List.getElem?_eq_getElem hLk))
          rw [List.drop_eq_getElem_cons hKl, List.drop_eq_getElem_cons hLk, Sha.rnds_cons] at hrn
          obtain ⟨K1, hK1⟩ : ∃ x, Sha.K[k] = x := ⟨_, rfl⟩
          obtain ⟨X1, hX1⟩ : ∃ x, L[k] = x := ⟨_, rfl⟩
          rw [hK1] at ck hrn
          rw [hX1] at cx hrn
          have e0 := hBv.at_ (i := 0) (x := .int .u32 (v.a : Int)) rfl
          have e1 := hBv.at_ (i := 1) (x := .int .u32 (v.b : Int)) rfl
          have e2 := hBv.at_ (i := 2) (x := .int .u32 (v.c : Int)) rfl
          have e3 := hBv.at_ (i := 3) (x := .int .u32 (v.d : Int)) rfl
          have e4 := hBv.at_ (i := 4) (x := .int .u32 (v.e : Int)) rfl
          have e5 := hBv.at_ (i := 5) (x := .int .u32 (v.f : Int)) rfl
          have e6 := hBv.at_ (i := 6) (x := .int .u32 (v.g : Int)) rfl
          have e7 := hBv.at_ (i := 7) (x := .int .u32 (v.h : Int)) rfl
          obtain ⟨rA, m1, m2, cv, t1, t2, t3, p, rB, n1, n2, n3, mv, q, d', a', hrA, hrB, ⟨x1, x2, x3⟩, ⟨⟨u1, u2, u3, u4⟩, y1, y2, y3, y4⟩, ⟨z1, z2, z3, z4⟩, ⟨u5', y5⟩, ⟨u6', y6⟩, ⟨u7', y7⟩, hst⟩ := round_parts v hvok K1 X1
          have RA : Hid (∀ W, Calls Tryz.prog 213 #[.int .u32 (v.e : Int), .int .i64 6, .int .i64 11, .int .i64 25] W fun e w' => e = .returned (.int .u32 (rA : Int)) ∧ w' = W) := fun W => by rw [← hrA]; exact (rotA v.e W hvok.e).mono fun _ _ h => ⟨h.1, h.2.symm⟩
          have RB : Hid (∀ W, Calls Tryz.prog 213 #[.int .u32 (v.a : Int), .int .i64 2, .int .i64 13, .int .i64 22] W fun e w' => e = .returned (.int .u32 (rB : Int)) ∧ w' = W) := fun W => by rw [← hrB]; exact (rotB v.a W hvok.a).mono fun _ _ h => ⟨h.1, h.2.symm⟩
          have hok2 := Lib.hid (Sha.rnd_ok hvok K1 X1)
          have hrn' := Lib.hid hrn; have hst' := Lib.hid hst; have hG' := Lib.hid hG; have hBv' := Lib.hid hBv
          have k0 : (0 : Int) ≤ (k : Int) := by omega
          have k1 : (k : Int) < 64 := by omega
          clear hrn hst hG hBv hK1 hX1 hrA hrB hck hvok
          go_wp2_with fail
          go_quiet ((go_at_call 213; exact Calls.quiet_of_same (Hid.out RA _)))
          go_wp2_with fail
          clear ck cx
          generalize hwd : wr.drewN nq = wd
          replace e0 : wd.cell? ⟨vb, 0, none⟩ = some (.int .u32 (v.a : Int)) := by rw [← hwd]; exact e0
          replace e1 : wd.cell? ⟨vb, 1, none⟩ = some (.int .u32 (v.b : Int)) := by rw [← hwd]; exact e1
          replace e2 : wd.cell? ⟨vb, 2, none⟩ = some (.int .u32 (v.c : Int)) := by rw [← hwd]; exact e2
          replace e3 : wd.cell? ⟨vb, 3, none⟩ = some (.int .u32 (v.d : Int)) := by rw [← hwd]; exact e3
          replace e4 : wd.cell? ⟨vb, 4, none⟩ = some (.int .u32 (v.e : Int)) := by rw [← hwd]; exact e4
          replace e5 : wd.cell? ⟨vb, 5, none⟩ = some (.int .u32 (v.f : Int)) := by rw [← hwd]; exact e5
          replace e6 : wd.cell? ⟨vb, 6, none⟩ = some (.int .u32 (v.g : Int)) := by rw [← hwd]; exact e6
          replace e7 : wd.cell? ⟨vb, 7, none⟩ = some (.int .u32 (v.h : Int)) := by rw [← hwd]; exact e7
          replace hBv' : Hid (Blk wd vb 211 (wv (stv v))) := by show Blk _ _ _ _; rw [← hwd]; exact hBv'.out.drewN nq
          replace hG' : Hid (W1.grownBy wd (some vb)) := by show World.grownBy _ _ _; rw [← hwd]; exact grown_drewN hG'.out nq
          clear hwd
          go_quiet ((go_at_call 213; exact Calls.quiet_of_same (Hid.out RB _)))
          go_wp2_with fail
          generalize hwd : wd.drewN nq = we
          replace e0 : we.cell? ⟨vb, 0, none⟩ = some (.int .u32 (v.a : Int)) := by rw [← hwd]; exact e0
          replace e1 : we.cell? ⟨vb, 1, none⟩ = some (.int .u32 (v.b : Int)) := by rw [← hwd]; exact e1
          replace e2 : we.cell? ⟨vb, 2, none⟩ = some (.int .u32 (v.c : Int)) := by rw [← hwd]; exact e2
          replace e3 : we.cell? ⟨vb, 3, none⟩ = some (.int .u32 (v.d : Int)) := by rw [← hwd]; exact e3
          replace e4 : we.cell? ⟨vb, 4, none⟩ = some (.int .u32 (v.e : Int)) := by rw [← hwd]; exact e4
          replace e5 : we.cell? ⟨vb, 5, none⟩ = some (.int .u32 (v.f : Int)) := by rw [← hwd]; exact e5
          replace e6 : we.cell? ⟨vb, 6, none⟩ = some (.int .u32 (v.g : Int)) := by rw [← hwd]; exact e6
          replace e7 : we.cell? ⟨vb, 7, none⟩ = some (.int .u32 (v.h : Int)) := by rw [← hwd]; exact e7
          replace hBv' : Hid (Blk we vb 211 (wv (stv v))) := by show Blk _ _ _ _; rw [← hwd]; exact hBv'.out.drewN nq
          replace hG' : Hid (W1.grownBy we (some vb)) := by show World.grownBy _ _ _; rw [← hwd]; exact grown_drewN hG'.out nq
          clear hwd
          obtain ⟨wf, hcp, hBf, hGf, hsf⟩ := Sl.copy_row (P := Tryz.prog) we.drew 236 236 209 vb 1 7 ⟨vb, 0, none⟩ 7 7 1 211 [.int .u32 (v.a : Int)] (wv [v.b, v.c, v.d, v.e, v.f, v.g, v.h]) [] (wv [v.a, v.b, v.c, v.d, v.e, v.f, v.g]) Tryz.underlying236 size125
           hBv'.out rfl rfl (by decide) rfl (fun j u hj => by
            rw [Addr.add_lit, Nat.zero_add]
            refine Blk.at_ (w := we.drew) (hBv'.out.drewN 1) (i := j) (x := u) ?_
            have hjl := (List.getElem?_eq_some_iff.1 hj).1
            match j, hjl with
             | 0, _ | 1, _ | 2, _ | 3, _ | 4, _ | 5, _ | 6, _ => exact hj) (by intro u hu; simp only [wv, List.mem_map] at hu; obtain ⟨x, _, rfl⟩ := hu; rfl)
          have hcp1 := hcp 3 7 8
          clear hcp
          go_region
          all_goals clear hcp1
          replace hBf : Blk wf vb 211 (wv [v.a, v.a, v.b, v.c, v.d, v.e, v.f, v.g]) := hBf
          have hBf' := Lib.hid hBf
          have hGf' := Lib.hid hGf
          have f4 := hBf.at_ (i := 4) (x := .int .u32 (v.d : Int)) rfl
          have f0 := hBf.at_ (i := 0) (x := .int .u32 (v.a : Int)) rfl
          have g4 := hBf.frozen 4
          have g0 := hBf.frozen 0
          clear hBf hGf hsf e0 e1 e2 e3 e4 e5 e6 e7
          go_wp2_with fail
          go_roundw
          case rel =>
           refine ⟨k + 1, Sha.rnd v K1 X1, by omega, by go_num, hok2.out, ?_, hrn'.out, ?_⟩
           · rw [hst'.out]
             exact (hBf'.out.set 4 (.int .u32 (d' : Int))).set 0 (.int .u32 (a' : Int))
           · exact grown_set (grown_set (grown_trans (grown_drewN hG'.out 1) hGf'.out) (.inl rfl) _) (.inl rfl) _
          case measure => simp [intOf]; omega
        · obtain rfl : k = 64 := by omega
          rw [List.drop_eq_nil_of_le (by rw [Sha.K_length]; omega), List.drop_eq_nil_of_le (by rw [hL2.out]; omega)] at hrn
          obtain rfl : v = VF := hrn
          have hBv' := Lib.hid hBv; have hG' := Lib.hid hG
          clear hBv hG hk
          rw [show ((64 : Nat) : Int) = 64 from rfl]
          go_wp2_with fail
          have hS2 := hSW1'.out.grown hG'.out (fun e => by cases e; omega)
          have hcomp : Hid (Sha.comp s l = Sha.plus s v) := by show _ = _; unfold Sha.comp; rw [hF.out, hVF.out]
          obtain ⟨w2, hw2⟩ : ∃ w2, w2 = wr := ⟨wr, rfl⟩
          have hbw2 : Below wb w w2 := by rw [hw2]; exact below_grown hbW1'.out hG'.out (by have := hbW1'.out.size; rw [hwb'.out] at this; exact this) (by omega)
          have hV2 : Blk w2 vb 211 (wv (stv v)) := by rw [hw2]; exact hBv'.out
          have hS2' : Blk w2 sb 211 (wv (stv s)) := by rw [hw2]; exact hS2
          have hbw2' := Lib.hid hbw2; have hV2' := Lib.hid hV2; have hS2'' := Lib.hid hS2'
          rw [← hw2]
          clear hbw2 hV2 hS2' hS2 hw2
          go_loopw [129] (fun i wq => ∃ k : Nat, k ≤ 8 ∧ i = .int .i64 k ∧ Blk wq sb 211 (wv ((stv (Sha.plus s v)).take k ++ (stv s).drop k)) ∧ w2.grownBy wq (some sb)) (fun i _ => 8 - (intOf i).toNat)
          case atStart => exact ⟨0, by omega, rfl, hS2''.out, World.grownBy.refl w2 _⟩
          case round =>
           obtain ⟨k, hk, rfl, hB, hG⟩ := hrel
           by_cases hlt4 : k < 8
           · obtain ⟨x, hx⟩ : ∃ x, (stv s)[k]? = some x := ⟨_, List.getElem?_eq_getElem (show k < 8 from hlt4)⟩
             obtain ⟨y, hy⟩ : ∃ y, (stv v)[k]? = some y := ⟨_, List.getElem?_eq_getElem (show k < 8 from hlt4)⟩
             have cS := hB.at_ (wv_get (plus_get s v hx))
             have fS := hB.frozen k
             have cV := (hV2'.out.grown hG (fun e => by cases e; omega)).at_ (wv_get hy)
             obtain ⟨z, hz, lz, hz1, hz2⟩ := add_parts x y
             have hps := Lib.hid (plus_step s v hx hy)
             rw [hz] at hps
             have hB' := Lib.hid hB; have hG' := Lib.hid hG
             have k0 : (0 : Int) ≤ (k : Int) := by omega
             have k1 : (k : Int) < 8 := by omega
             clear hB hG hx hy hz
             go_wp2_with fail
             go_still_tail 11, (by kernel_rfl)
             repeat still_step
             change wpList _ _ _ _ _ wr.drew
             go_wp2_with fail
             go_roundw
             case rel =>
              refine ⟨k + 1, by omega, by go_num, ?_, grown_set (grown_drewN hG'.out 1) (.inl rfl) _⟩
              rw [← hps.out, ← wv_set]; exact Blk.set (hB'.out.drewN 1) k _
             case measure => simp [intOf]; omega
           · obtain rfl : k = 8 := by omega
             go_wp2_with fail
             go_end0
             refine ⟨rfl, ?_, ?_⟩
             · rw [hcomp.out]
               simpa [stv] using hB
             · have hbw := hbw2'.out
               rw [← hwb'.out] at hbw
               exact grown_trans (grown_of_below hbw (some sb)) hG
end Go.Proofs.YtnonfdcbnkdmcaaGreatDoor
