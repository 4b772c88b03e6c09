/- sign.hash -/
import Derived.Test.YtnonfdcbnkdmcaaGreatDoorSca
namespace Go.Proofs.YtnonfdcbnkdmcaaGreatDoor
open Go.RowKit Go.Mem

def numB (n : Int) : List Nat := Sha.be 8 (n % 18446744073709551616).toNat
def numsB (l : List Int) : List Nat := (l.map numB).flatten
def hashK (tag : List Nat) (msg : List Nat) (l : List Int) : Nat := scalar tag (numsB l ++ msg)
def iv (l : List Int) : List Value := l.map fun x => .int .i64 x

theorem numsB_cons (x : Int) (r : List Int) : numsB (x :: r) = numB x ++ numsB r := by simp [numsB]
theorem numB_length (x : Int) : (numB x).length = 8 := Sha.be_length _ _
theorem iv_get {l : List Int} {k : Nat} (h : k < l.length) : (iv l)[k]? = some (.int .i64 l[k]) := by simp [iv, h]

theorem numB_at (x : Int) (j : Nat) (hj : j < 8) : (numB x).drop j = (IntKind.u64.wrap x / 2 ^ (56 - 8 * j) % 256).toNat :: (numB x).drop (j + 1) := by
 have hl : j < (numB x).length := by rw [numB_length]; exact hj
 rw [List.drop_eq_getElem_cons hl]
 congr 1
 simp only [numB, Sha.be, List.getElem_map, List.getElem_range]
 rw [show (256 : Nat) = 2 ^ 8 by rfl, ← Nat.pow_mul, show 8 * (8 - 1 - j) = 56 - 8 * j by omega, IntKind.wrap_u64]
 have h0 : 0 ≤ x % 18446744073709551616 := Int.emod_nonneg _ (by decide)
 obtain ⟨y, hy⟩ := Int.eq_ofNat_of_zero_le h0
 rw [hy, Int.toNat_natCast, show ((2 : Int) ^ (56 - 8 * j)) = ((2 ^ (56 - 8 * j) : Nat) : Int) by rw [Int.natCast_pow]; rfl, ← Int.natCast_ediv, show ((256 : Int)) = ((256 : Nat) : Int) from rfl, ← Int.natCast_emod, Int.toNat_natCast]

set_option maxRecDepth 20000 in
set_option maxHeartbeats 2000000 in
theorem hash_any (tag : ByteArray) (htg : tag.size ≤ 140737488355328) (a : Option Addr) (n c : Nat) (l : List Nat) (g m cc : Nat) (ty : TypeId) (ns : List Int) (w : World) (HT : Tabs w) (H : BS w a n c l) (hn : n ≤ 140737488354000)
 (HN : Blk w g ty (iv ns)) (hm : ns.length = m) (hmc : m ≤ cc) (hcx : cc ≤ 9223372036854775807) (m4 : m ≤ 8) (hns : ∀ x ∈ ns, -9223372036854775808 ≤ x ∧ x ≤ 9223372036854775807) :
 Calls Tryz.prog 127 #[.string tag, .slice a n c, .slice (some ⟨g, 0, none⟩) m cc] w (RetI (hashK (octets tag) l ns : Nat) w) := by
 have mx : (m : Int) ≤ 9223372036854775807 := by omega
 have gl := HN.lt
 have HT' := Lib.hid HT; have H' := Lib.hid H; have HN' := Lib.hid HN
 clear HT H HN
 go_enter Tryz.func127, Tryz.ntmps127
 go_wp2_with fail
 go_loopw [7, 13] (fun v i wr => ∃ (k : Nat) (xs : List Nat), k ≤ m ∧ i = .int .i64 k ∧ Hid (wr.ownsRow w.heap.size 5 1 v (8 * k) (bv xs)) ∧ Hid (∀ u ∈ xs, u < 256) ∧ Hid (Below w.heap.size w wr) ∧ Hid (xs ++ numsB (ns.drop k) = numsB ns)) (fun _ i _ => m - (intOf i).toNat)
 case atStart => exact ⟨0, [], Nat.zero_le _, rfl, World.ownsRow_nil _ _ _ _, by show ∀ _ ∈ _, _; simp, Below.refl _ _, rfl⟩
 case round =>
  obtain ⟨k, xs, hk, rfl, ho, hx, hbr, hfl⟩ := hrel
  by_cases hlt : k < m
  · have hkl : k < ns.length := by omega
    have c0 := (HN'.out.below hbr.out gl).at_ (iv_get hkl)
    obtain ⟨x0, x1⟩ := hns ns[k] (List.getElem_mem hkl)
    have hfl' := hfl.out
    rw [List.drop_eq_getElem_cons hkl, numsB_cons] at hfl'
    generalize ns[k] = x at *
    have hfl2 := Lib.hid hfl'
    clear hfl hfl' hkl
    have k0 : (0 : Int) ≤ (k : Int) := by omega
    have k1 : (k : Int) < (m : Int) := by omega
    go_wp2_with fail
    go_loopw [7, 10] (fun v i wq => ∃ (j : Nat) (ys : List Nat), j ≤ 8 ∧ i = .int .i64 (56 - 8 * (j : Int)) ∧ Hid (wq.ownsRow w.heap.size 5 1 v (8 * k + j) (bv ys)) ∧ Hid (∀ u ∈ ys, u < 256) ∧ Hid (Below w.heap.size w wq) ∧ Hid (ys ++ (numB x).drop j = xs ++ numB x)) (fun _ i _ => (intOf i + 8).toNat)
    case atStart => exact ⟨0, xs, by omega, rfl, ho, hx, hbr, rfl⟩
    case round =>
     obtain ⟨j, ys, hj, rfl, hoy, hy, hby, hys⟩ := hrel
     by_cases hj8 : j < 8
     · obtain ⟨s, hs⟩ : ∃ s : Nat, Hid (56 - 8 * j = s) := ⟨_, rfl⟩
       have hs0 := hs.out
       rw [show (56 : Int) - 8 * (j : Int) = (s : Int) by omega]
       have s0 : (0 : Int) ≤ (s : Int) := by omega
       have s1 : (s : Int) < 64 := by omega
       have hnx := numB_at x j hj8
       rw [hs0] at hnx
       have hys' := hys.out
       rw [hnx] at hys'
       obtain ⟨W2, hW2⟩ : ∃ W2, W2 = wr.alloc (.cells #[.int .u8 (IntKind.u64.wrap x / 2 ^ s % 256)] 5) := ⟨_, rfl⟩
       have hB2 : BS W2 (some ⟨wr.heap.size, 0, none⟩) 1 1 [(IntKind.u64.wrap x / 2 ^ s % 256).toNat] := by rw [hW2]; exact one_bs (Blk.new wr 5 [.int .u8 (IntKind.u64.wrap x / 2 ^ s % 256)])
       have hb2 : Below w.heap.size w W2 := by rw [hW2]; exact hby.out.alloc hby.out.size _
       have hyl := hoy.out.1
       rw [bv_length] at hyl
       have ho2 : W2.ownsRow w.heap.size 5 1 u7 (8 * k + j) (bv ys) := by rw [hW2]; exact World.ownsRow.kept (row := none) hoy.out (World.grownBy_alloc wr _ none) (by cases u7.ownBlock with | none => exact .inl rfl | some _ => exact .inr (fun e => by cases e))
       obtain ⟨v2, w2, hr, ho3, hgr⟩ := append_bs ho2 (bw_of hB2) (by omega) hb2.size
       have hb3 : Hid (Below w.heap.size w w2) := hb2.grown hgr hb2.size (fun r e => (World.ownsRow.lt ho2 r e).1)
       have hlt2 := hB2.lt
       have hy2 : Hid (∀ u ∈ ys ++ [(IntKind.u64.wrap x / 2 ^ s % 256).toNat], u < 256) := fun u hu => by
        rcases List.mem_append.1 hu with h | h
        · exact hy.out u h
        · exact hlt2 u h
       have hys2 : Hid ((ys ++ [(IntKind.u64.wrap x / 2 ^ s % 256).toNat]) ++ (numB x).drop (j + 1) = xs ++ numB x) := by show _ = _; rw [← hys']; simp
       rw [hW2] at hr
       have hr' := Lib.hid hr; have ho' := Lib.hid ho3
       have e8 : Hid (56 - 8 * ((j + 1 : Nat) : Int) = (s : Int) - 8) := by show _ = _; omega
       clear hnx hys' hB2 hb2 hyl ho2 hgr hr ho3 hlt2 hoy hby hW2
       go_wp2_with (at_builtin; refine Lib.wpList_append_run _ rfl _ _ _ _ rfl _ _ rfl rfl _ _ (hr'.out _) ?_)
       go_roundw
       case rel => exact ⟨j + 1, _, by omega, by rw [e8.out], ho', hy2, hb3, hys2⟩
       case measure => simp [intOf]; omega
     · obtain rfl : j = 8 := by omega
       have hys' := hys.out
       rw [List.drop_eq_nil_of_le (by rw [numB_length]; exact Nat.le_refl _), List.append_nil] at hys'
       subst hys'
       go_wp2_with fail
       refine ⟨⟨k + 1, xs ++ numB x, by omega, by go_num, hoy, hy, hby, ?_⟩, by simp [intOf]; omega⟩
       show _ = _
       rw [List.append_assoc]; exact hfl2.out
  · obtain rfl : k = m := by omega
    have hfl' := hfl.out
    rw [List.drop_eq_nil_of_le (by omega), show numsB [] = [] from rfl, List.append_nil] at hfl'
    subst hfl'
    obtain ⟨v2, w2, hr, ho2, hgr⟩ := append_bs ho.out (bw_of (H'.out.below hbr.out)) (by omega) hbr.out.size
    have hb2 : Hid (Below w.heap.size w w2) := hbr.out.grown hgr hbr.out.size (fun r e => (World.ownsRow.lt ho.out r e).1)
    obtain ⟨a2, c2, rfl, hB2⟩ := BS.own ho2 (fun u hu => by
     rcases List.mem_append.1 hu with h | h
     · exact hx.out u h
     · exact H'.out.lt u h)
    have hsc := Lib.hid (scalar_any tag htg _ _ _ _ w2 (HT'.out.below hb2.out) hB2 (by omega))
    have hr' := Lib.hid hr
    have hk : Hid (scalar (octets tag) (numsB ns ++ l) = hashK (octets tag) l ns) := rfl
    clear ho2 hgr hB2 ho hbr hr hfl hx
    go_wp2_with (at_builtin; refine Lib.wpList_append_run _ rfl _ _ _ _ rfl _ _ rfl rfl _ _ (hr'.out _) ?_)
    refine hsc.out.mono ?_
    rintro e w3 ⟨rfl, hb3⟩
    have hb4 := Lib.hid (hb2.out.trans (hb3.mono hb2.out.size))
    rw [hk.out]
    clear hb3 hsc hr'
    go_wp2_with fail
    go_returns
    exact ⟨rfl, hb4.out⟩
end Go.Proofs.YtnonfdcbnkdmcaaGreatDoor

