/- slices.Concat at two slices of bytes -/
import Derived.Test.YtnonfdcbnkdmcaaGreatDoorMem2
import Derived.Test.YtnonfdcbnkdmcaaGreatDoorSl
import Derived.Test.YtnonfdcbnkdmcaaGreatDoorChecked
import Derived.Lib.AppendZeros
import Derived.WalkLawsBesides
import Derived.WalkSpells
namespace Go.Proofs.YtnonfdcbnkdmcaaGreatDoor
open Go.RowKit Go.Mem

theorem info5 : (Tryz.prog.info? 5).map (fun i => (i.zero, i.size, i.bytes)) = some (some (.int .u8 0), 1, 1) := by kernel_rfl

def OwnB (n : Nat) (l : List Nat) (w : World) (e : Ending) (w' : World) : Prop := ∃ v, e = .returned v ∧ w'.ownsRow w.heap.size 5 1 v n (bv l) ∧ Below w.heap.size w w'

set_option maxRecDepth 20000 in
set_option maxHeartbeats 1000000 in
theorem grow_nil (n : Nat) (w : World) (hn : n ≤ 140737488355328) :
 Calls Tryz.prog 164 #[.slice none 0 0, .int .i64 (n : Int)] w (OwnB 0 [] w) := by
 obtain ⟨i0, hi, hz0, hz1, hz2⟩ := info_parts info5
 have n0 : (0 : Int) ≤ (n : Int) := by omega
 have n1 : (n : Int) ≤ 140737488355328 := by omega
 rcases Nat.eq_zero_or_pos n with h | h
 · subst h
   go_enter Tryz.func164, Tryz.ntmps164
   go_wp2_with fail
   go_ret
   exact ⟨_, rfl, World.ownsRow_nil _ _ _ _, Below.refl _ _⟩
 · have hp : (0 : Int) < (n : Int) := by omega
   have hge := grownCap_ge w n 0 5
   have hle := grownCap_le_maxLen w n 0 5 (by unfold maxLen; omega)
   have hr := Lib.run_append_nil_zeros (P := Tryz.prog) w 71 3 71 5 i0 (.int .u8 0) .i64 .i64 Tryz.underlying71 Tryz.underlying3 hi hz0 n h (by rw [hz1]; omega) (by omega) (by rw [hz2]; omega)
   have hown : Hid ((w.drew.alloc (.cells (Builtin.zeroCells (Value.int .u8 0).cells n ++ Builtin.zeroCells (Value.int .u8 0).cells (grownCap w n 0 5 - n)) 5)).ownsRow w.heap.size 5 1 (.slice (some ⟨w.heap.size, 0, none⟩) 0 (grownCap w n 0 5)) 0 []) := by
    refine Sl.owns_mk (rest := (Builtin.zeroCells (Value.int .u8 0).cells n ++ Builtin.zeroCells (Value.int .u8 0).cells (grownCap w n 0 5 - n)).toList) (Nat.le_refl _) ?_ rfl (Nat.zero_le _) hle ?_
    · rw [List.nil_append, Array.toArray_toList, show w.heap.size = w.drew.heap.size from rfl, heap_alloc_new]
    · simp only [List.length_nil, Array.toList_append, List.length_append, Array.length_toList, size_zeroCells, Value.cells]
      simp; omega
   have hb : Hid (Below w.heap.size w (w.drew.alloc (.cells (Builtin.zeroCells (Value.int .u8 0).cells n ++ Builtin.zeroCells (Value.int .u8 0).cells (grownCap w n 0 5 - n)) 5))) := ((Below.refl _ w).drew).alloc (Nat.le_refl _) _
   obtain ⟨W1, hW1⟩ : ∃ W1, W1 = w.drew.alloc (.cells (Builtin.zeroCells (Value.int .u8 0).cells n ++ Builtin.zeroCells (Value.int .u8 0).cells (grownCap w n 0 5 - n)) 5) := ⟨_, rfl⟩
   rw [← hW1] at hr hown hb
   obtain ⟨gc, hgc⟩ : ∃ gc, gc = grownCap w n 0 5 := ⟨_, rfl⟩
   rw [← hgc] at hr hown
   clear hW1 hgc
   have hr' := Lib.hid hr
   clear hr hi hz0 hz1 hz2
   go_enter Tryz.func164, Tryz.ntmps164
   go_wp2_with (at_builtin; refine Lib.wpList_append_run _ rfl _ _ _ _ rfl _ _ rfl rfl _ _ hr'.out ?_)
   go_ret
   exact ⟨_, rfl, hown.out, hb.out⟩

theorem BS.news {w : World} {ad : Addr} {n c : Nat} {l : List Nat} (h : BS w (some ad) n c l) : ∀ j u, (bv l)[j]? = some u → w.cell? (ad.add j) = some u := by
 intro j u hj
 obtain ⟨b, off, rfl, hb, hc⟩ := h.cells0
 rw [Addr.add_lit]
 have hjl := (List.getElem?_eq_some_iff.1 hj).1
 rw [bv_length] at hjl
 rw [bv_get (List.getElem?_eq_getElem hjl)] at hj
 cases hj
 exact hc j _ (List.getElem?_eq_getElem hjl)

end Go.Proofs.YtnonfdcbnkdmcaaGreatDoor
namespace Go.Mem
open Go.RowKit
def BW (w : World) (a : Option Addr) (n c : Nat) (l : List Nat) : Prop := BS w a n c l ∨ (n = 0 ∧ c = 0 ∧ l = [] ∧ ∃ ad, a = some ad)
section
variable {w w' : World} {a : Option Addr} {n c : Nat} {l : List Nat}
theorem bw_of (h : BS w a n c l) : BW w a n c l := .inl h
theorem BW.below (h : BW w a n c l) (hb : Below w.heap.size w w') : BW w' a n c l := h.imp (fun h => h.below hb) id
theorem BW.len (h : BW w a n c l) : l.length = n := by
 rcases h with h | ⟨rfl, _, rfl, _⟩
 · exact h.len
 · rfl
theorem BW.lt (h : BW w a n c l) : ∀ x ∈ l, x < 256 := by
 rcases h with h | ⟨_, _, rfl, _⟩
 · exact h.lt
 · intro x hx; cases hx
theorem BW.none (h : BW w none n c l) : BS w none n c l := by
 rcases h with h | ⟨_, _, _, _, e⟩
 · exact h
 · cases e
theorem BW.news {ad : Addr} (h : BW w (some ad) n c l) : ∀ j u, (bv l)[j]? = some u → w.cell? (ad.add j) = some u := by
 rcases h with h | ⟨_, _, rfl, _⟩
 · exact Go.Proofs.YtnonfdcbnkdmcaaGreatDoor.BS.news h
 · intro j u hj; simp [bv] at hj
end
end Go.Mem
namespace Go.Proofs.YtnonfdcbnkdmcaaGreatDoor
open Go.RowKit Go.Mem
theorem append_bs {w : World} {B : Nat} {v : Value} {k : Nat} {xs : List Nat} (hown : w.ownsRow B 5 1 v k (bv xs)) {a : Option Addr} {n c : Nat} {l : List Nat} (H : BW w a n c l) (hn : k + n ≤ 140737488355328) (hB : B ≤ w.heap.size) :
 ∃ v' w', (∀ ty, (Builtin.append_ #[71, 71] ty #[v, .slice a n c]).run Tryz.prog w = .ok v' w') ∧ w'.ownsRow B 5 1 v' (k + n) (bv (xs ++ l)) ∧ w.grownBy w' v.ownBlock := by
 obtain ⟨i0, hi, hz0, hz1, hz2⟩ := info_parts info5
 match a, H with
 | none, H =>
  obtain ⟨rfl, rfl⟩ := H.none.nil rfl
  have hl : l = [] := List.eq_nil_of_length_eq_zero H.len
  subst hl
  refine ⟨v, w, fun ty => ?_, by rw [List.append_nil]; exact hown, World.grownBy.refl w _⟩
  rcases hown.2 with ⟨rfl, rfl⟩ | ⟨g, cap, cur, rfl, _, _, hnc, _, _, _⟩
  · simp [Builtin.append_, run_underlying Tryz.underlying71, sizeOf, typeInfo, hi, Builtin.lenOf, Builtin.firstCells]
  · simp [Builtin.append_, run_underlying Tryz.underlying71, sizeOf, typeInfo, hi, Builtin.lenOf, Builtin.firstCells, storeCells, hnc]
 | some ad, H =>
  obtain ⟨v', w', hr, h2, h3, _⟩ := run_append_own (P := Tryz.prog) w B 71 0 5 i0 (.int .u8 0) 1 1 Tryz.underlying71 hi hz0 hz1 hz2 rfl (by omega) v k (bv xs) hown ad n c (bv l) (by rw [bv_length, H.len, Nat.mul_one]) (BW.news H) (bv_one l) (by unfold maxLen; omega) (by omega) hB
  refine ⟨v', w', fun ty => ?_, by rw [bv_append]; exact h2, h3⟩
  rw [← hr]; rfl

abbrev Parts := List (Option Addr × Nat × Nat × List Nat)
def tot (ss : Parts) : Nat := (ss.map (·.2.1)).sum
def flat (ss : Parts) : List Nat := (ss.map (·.2.2.2)).flatten
def cellsOf (ss : Parts) : List Value := ss.map fun s => .slice s.1 s.2.1 s.2.2.1

theorem tot_cons (x : Option Addr × Nat × Nat × List Nat) (r : Parts) : tot (x :: r) = x.2.1 + tot r := by simp [tot]
theorem flat_cons (x : Option Addr × Nat × Nat × List Nat) (r : Parts) : flat (x :: r) = x.2.2.2 ++ flat r := by simp [flat]
theorem cellsOf_get {ss : Parts} {k : Nat} (h : k < ss.length) : (cellsOf ss)[k]? = some (.slice ss[k].1 ss[k].2.1 ss[k].2.2.1) := by simp [cellsOf, h]

set_option maxRecDepth 20000 in
set_option maxHeartbeats 1000000 in
theorem concat_any (g : Nat) (ty : TypeId) (ss : Parts) (m c : Nat) (w : World) (hm : ss.length = m) (hmc : m ≤ c) (hcx : c ≤ 9223372036854775807) (H : Blk w g ty (cellsOf ss)) (hs : ∀ s ∈ ss, BW w s.1 s.2.1 s.2.2.1 s.2.2.2) (hn : tot ss ≤ 140737488355328) :
 Calls Tryz.prog 110 #[.slice (some ⟨g, 0, none⟩) m c] w (OwnB (tot ss) (flat ss) w) := by
 have mx : (m : Int) ≤ 9223372036854775807 := by omega
 have gl := H.lt
 go_enter Tryz.func110, Tryz.ntmps110
 go_wp2_with fail
 go_loop [3, 11] (fun z i => ∃ k sz : Nat, k ≤ m ∧ i = .int .i64 k ∧ z = .int .i64 sz ∧ sz + tot (ss.drop k) = tot ss) (fun _ i => m - (intOf i).toNat)
 case atStart => exact ⟨0, 0, Nat.zero_le _, rfl, rfl, by simp⟩
 case round =>
  obtain ⟨k, sz, hk, rfl, rfl, hinv⟩ := hrel
  by_cases hlt : k < m
  · have hkl : k < ss.length := by omega
    have c0 := H.at_ (cellsOf_get hkl)
    rw [List.drop_eq_getElem_cons hkl, tot_cons, ← Nat.add_assoc] at hinv
    generalize ss[k] = t at *
    obtain ⟨ta, tn, tc, tl⟩ := t
    have hinv' := Lib.hid hinv
    have e0 : (0 : Int) ≤ (sz : Int) := by omega
    have e1 : (0 : Int) ≤ (sz : Int) + (tn : Int) := by omega
    have e2 : (sz : Int) + (tn : Int) ≤ 140737488355328 := by simp only [] at hinv; omega
    have k0 : (0 : Int) ≤ (k : Int) := by omega
    have k1 : (k : Int) < (m : Int) := by omega
    clear hinv hkl
    go_wp2_with fail
    go_round
    case rel => exact ⟨k + 1, sz + tn, by omega, by go_num, by go_num, hinv'.out⟩
    case measure => simp [intOf]; omega
  · obtain rfl : k = m := by omega
    rw [List.drop_eq_nil_of_le (by omega)] at hinv
    have hsz : sz = tot ss := by simpa [tot] using hinv
    subst hsz
    have hg := Lib.hid (grow_nil (tot ss) w hn)
    clear hinv
    go_wp2_with fail
    refine (Hid.out hg).mono ?_
    rintro e w1 ⟨v0, rfl, hown, hb⟩
    clear hg
    have hown' := Lib.hid hown; have hb' := Lib.hid hb
    clear hown hb
    go_wp2_with fail
    go_loopw [6, 27] (fun v i wr => ∃ (j n : Nat) (xs : List Nat), j ≤ k ∧ i = .int .i64 j ∧ Hid (wr.ownsRow w.heap.size 5 1 v n (bv xs)) ∧ Hid (Below w.heap.size w wr) ∧ n + tot (ss.drop j) = tot ss ∧ Hid (xs ++ flat (ss.drop j) = flat ss)) (fun _ i _ => k - (intOf i).toNat)
    case atStart => exact ⟨0, 0, [], Nat.zero_le _, rfl, hown', hb', by simp, rfl⟩
    case round =>
     obtain ⟨j, n, xs, hj, rfl, ho, hbr, hinv, hfl⟩ := hrel
     by_cases hlt : j < k
     · have hjl : j < ss.length := by omega
       have c0 := (H.below hbr.out gl).at_ (cellsOf_get hjl)
       have hS := (hs _ (List.getElem_mem hjl)).below hbr.out
       rw [List.drop_eq_getElem_cons hjl, tot_cons, ← Nat.add_assoc] at hinv
       have hfl' := hfl.out
       rw [List.drop_eq_getElem_cons hjl, flat_cons, ← List.append_assoc] at hfl'
       generalize ss[j] = t at *
       obtain ⟨ta, tn, tc, tl⟩ := t
       simp only [] at hinv hfl' c0 hS
       obtain ⟨v2, w2, hr, ho2, hgr⟩ := append_bs ho.out hS (by omega) hbr.out.size
       have hb2 : Hid (Below w.heap.size w w2) := hbr.out.grown hgr hbr.out.size (fun r e => (World.ownsRow.lt ho.out r e).1)
       have hr' := Lib.hid hr; have ho' := Lib.hid ho2; have hinv' := Lib.hid hinv; have hfl2 := Lib.hid hfl'
       have k0 : (0 : Int) ≤ (j : Int) := by omega
       have k1 : (j : Int) < (k : Int) := by omega
       clear hinv hfl' hfl hr ho2 hgr hS
       go_wp2_with (at_builtin; refine Lib.wpList_append_run _ rfl _ _ _ _ rfl _ _ rfl rfl _ _ (hr'.out _) ?_)
       go_roundw
       case rel => exact ⟨j + 1, n + tn, xs ++ tl, by omega, by go_num, ho', hb2, hinv'.out, hfl2⟩
       case measure => simp [intOf]; omega
     · obtain rfl : j = k := by omega
       have hfl' := hfl.out
       rw [List.drop_eq_nil_of_le (by omega)] at hinv hfl'
       have hn' : n = tot ss := by simpa [tot] using hinv
       have hx : xs = flat ss := by simpa [flat] using hfl'
       subst hn' hx
       clear hfl hinv hfl'
       go_wp2_with fail
       go_ret
       exact ⟨_, rfl, ho.out, hbr.out⟩
end Go.Proofs.YtnonfdcbnkdmcaaGreatDoor
