/- group.rest, group.Scalar -/
import Derived.Test.YtnonfdcbnkdmcaaGreatDoorEnt
import Derived.Test.YtnonfdcbnkdmcaaGreatDoorFld
import Derived.Handy
namespace Go.Proofs.YtnonfdcbnkdmcaaGreatDoor
open Go.RowKit Go.Mem

def restOf (m : Nat) (l : List Nat) : Nat := l.foldl (fun n b => (n * 256 + b) % m) 0
def scalar (tag l : List Nat) : Nat := 1 + restOf 2305843009213688668 (Sha.tagged tag l)

theorem index_dig (W : World) (d : List Nat) (hd : d.length = 32) (k : Nat) (hk : k < d.length) :
 (Instr.index 32 (.agg (bv d).toArray) (.int .i64 (k : Int))).run Tryz.prog W = .ok (.int .u8 ((d[k] : Nat) : Int)) W := by
 have hg : (bv d).toArray[k]? = some (.int .u8 ((d[k] : Nat) : Int)) := by
  rw [List.getElem?_toArray]; exact bv_get (List.getElem?_eq_getElem hk)
 have hs : (bv d).toArray.size = 32 := by rw [List.size_toArray, bv_length, hd]
 simp [Instr.index, run_underlying Tryz.underlying32, asIntOf, go_sem]
 rw [if_pos (by omega), bv_get (List.getElem?_eq_getElem hk)]
 rfl

def FoldPost (nb : Nat) (v : Nat) (w : World) (e : Ending) (w' : World) : Prop := e = .returned (.tuple #[]) ∧ w'.cell? ⟨nb, 0, none⟩ = some (.int .u64 (v : Int)) ∧ w'.frozen? ⟨nb, 0, none⟩ = false ∧ w.grownBy w' (some nb)

theorem or_byte64 (v x : Nat) (hv : v < 72057594037927936) (hx : x < 256) : bits .or .u64 ((v * 256 : Nat) : Int) (x : Int) = ((v * 256 + x : Nat) : Int) := by
 have h := u64_or_nat (v * 256) x (by omega) (by omega)
 have e : v * 256 ||| x = v * 256 + x := by
  have := Nat.shiftLeft_add_eq_or_of_lt (i := 8) (b := x) (by omega) v
  rw [Nat.shiftLeft_eq] at this
  exact this.symm
 rw [e] at h
 exact h

set_option maxRecDepth 20000 in
set_option maxHeartbeats 2000000 in
theorem fold_any (nb mb : Nat) (n m b : Nat) (w : World) (hn : w.cell? ⟨nb, 0, none⟩ = some (.int .u64 (n : Int))) (hf : w.frozen? ⟨nb, 0, none⟩ = false) (hm : w.cell? ⟨mb, 0, none⟩ = some (.int .u64 (m : Int)))
 (hb : b < 256) (hlt : n < m) (m0 : 1152921504606846976 ≤ m) (m1 : m < 2305843009213693952) :
 Calls Tryz.prog 216 #[.int .u8 (b : Int), .pointer (some ⟨nb, 0, none⟩), .pointer (some ⟨mb, 0, none⟩)] w (FoldPost nb ((n * 256 + b) % m) w) := by
 go_enter Tryz.func216, Tryz.ntmps216
 go_wp2_with fail
 have e1 : (n : Int) / 72057594037927936 = ((n / 72057594037927936 : Nat) : Int) := by rw [Int.natCast_ediv]; rfl
 have e2 : IntKind.u64.wrap ((n : Int) * 256) = ((n % 72057594037927936 * 256 : Nat) : Int) := by
  show ((n : Int) * 256) % 18446744073709551616 = _
  omega
 rw [e1, e2, or_byte64 _ _ (Nat.mod_lt _ (by decide)) hb]
 have hd := div_all 61 (.inl rfl) (n / 72057594037927936) (n % 72057594037927936 * 256 + b) m w (by omega) (by omega) (by omega) (by omega)
 rw [show n / 72057594037927936 * 18446744073709551616 + (n % 72057594037927936 * 256 + b) = n * 256 + b by omega] at hd
 refine hd.mono ?_
 rintro e w' ⟨q, rfl, k, rfl⟩
 obtain ⟨r, hr⟩ : ∃ r, Hid ((n * 256 + b) % m = r) := ⟨_, rfl⟩
 rw [hr.out]
 have hc : (w.drewN k).cell? ⟨nb, 0, none⟩ = some (.int .u64 (n : Int)) := hn
 have hf' : (w.drewN k).frozen? ⟨nb, 0, none⟩ = false := hf
 have hg := Lib.hid (grown_drewN (World.grownBy.refl w (some nb)) k)
 generalize w.drewN k = W1 at *
 clear hd e1 e2 hm hn hf
 go_wp2_with fail
 go_end0
 exact ⟨rfl, by rw [hr.out]; exact World.cell?_setCell_same' _ _ _ (by rw [hc]; rfl), by rw [World.frozen?_setCell]; exact hf', grown_set hg.out (.inl rfl) _⟩

set_option maxRecDepth 20000 in
set_option maxHeartbeats 2000000 in
theorem rest_any (d : List Nat) (hd : d.length = 32) (hdl : ∀ u ∈ d, u < 256) (m : Nat) (m0 : 1152921504606846976 ≤ m) (m1 : m < 2305843009213693952) (w : World) :
 Calls Tryz.prog 192 #[.agg (bv d).toArray, .int .u64 (m : Int)] w (fun e w' => e = .returned (.int .u64 (restOf m d : Nat)) ∧ Below w.heap.size w w') := by
 obtain ⟨tb, htb⟩ : ∃ tb, Hid (w.heap.size = tb) := ⟨_, rfl⟩
 have hr0 : Hid ((((w.alloc (.cells (bv d).toArray 32)).alloc (.cells #[.int .u64 (m : Int)] 195)).alloc (.cells #[.int .u64 0] 195)).rangeAt w.heap.size 0 (bv d)) :=
  (((Blk.new w 32 (bv d)).alloc _).alloc _).range
 have hdi : Hid ((Tryz.prog.info? 32).map (·.size) = some (bv d).length) := by show _ = _; rw [bv_length, hd]; exact size35
 go_enter Tryz.func192, Tryz.ntmps192
 go_wp2_with (first
  | (refine wpList_load_mid (by rfl) 32 (.tmp 2) (by rfl) w.heap.size 0 (by rfl) (bv d) _ hr0.out Tryz.underlying32 (by rfl) hdi.out ?_))
 rw [htb.out]
 obtain ⟨W, hW⟩ : ∃ W, W = ((w.alloc (.cells (bv d).toArray 32)).alloc (.cells #[.int .u64 (m : Int)] 195)).alloc (.cells #[.int .u64 0] 195) := ⟨_, rfl⟩
 have hm : Blk W (tb + 1) 195 [.int .u64 (m : Int)] := by
  have := Blk.new (w.alloc (.cells (bv d).toArray 32)) 195 [.int .u64 (m : Int)]
  rw [show (w.alloc (.cells (bv d).toArray 32)).heap.size = tb + 1 by rw [← htb.out]; simp] at this
  rw [hW]; exact this.alloc _
 have hn : Blk W (tb + 1 + 1) 195 [.int .u64 0] := by
  have := Blk.new ((w.alloc (.cells (bv d).toArray 32)).alloc (.cells #[.int .u64 (m : Int)] 195)) 195 [.int .u64 0]
  rw [show ((w.alloc (.cells (bv d).toArray 32)).alloc (.cells #[.int .u64 (m : Int)] 195)).heap.size = tb + 1 + 1 by rw [← htb.out]; simp] at this
  rw [hW]; exact this
 have hb : Hid (Below w.heap.size w W) := by rw [hW]; exact (((Below.refl _ w).alloc (Nat.le_refl _) _).alloc (by simp) _).alloc (by simp; omega) _
 rw [← hW]
 have mc : W.cell? ⟨tb + 1, 0, none⟩ = some (.int .u64 (m : Int)) := hm.at_ rfl
 have nc : W.cell? ⟨tb + 1 + 1, 0, none⟩ = some (.int .u64 ((0 : Nat) : Int)) := hn.at_ rfl
 have nf : W.frozen? ⟨tb + 1 + 1, 0, none⟩ = false := hn.frozen 0
 have hrest : Hid (restOf m d = (d.drop 0).foldl (fun n b => (n * 256 + b) % m) 0) := rfl
 clear hW hm hn hr0 hdi
 go_loopw [10] (fun i wr => ∃ k n : Nat, k ≤ 32 ∧ i = .int .i64 k ∧ n < m ∧ wr.cell? ⟨tb + 1, 0, none⟩ = some (.int .u64 (m : Int)) ∧ wr.cell? ⟨tb + 1 + 1, 0, none⟩ = some (.int .u64 (n : Int)) ∧ wr.frozen? ⟨tb + 1 + 1, 0, none⟩ = false ∧ Hid (Below w.heap.size w wr) ∧ Hid (restOf m d = (d.drop k).foldl (fun n b => (n * 256 + b) % m) n)) (fun i _ => 32 - (intOf i).toNat)
 case atStart => exact ⟨0, 0, by omega, rfl, by omega, mc, nc, nf, hb, hrest⟩
 case round =>
  obtain ⟨k, n, hk, rfl, hnm, mc, nc, nf, hbr, hf⟩ := hrel
  by_cases hlt : k < 32
  · have hkl : k < d.length := by omega
    have hx := hdl d[k] (List.getElem_mem hkl)
    have hix : ∀ W, (Instr.index 32 (.agg (bv d).toArray) (.int .i64 (k : Int))).run Tryz.prog W = .ok (.int .u8 ((d[k] : Nat) : Int)) W := fun W => index_dig W d hd k hkl
    have hf' := hf.out
    rw [List.drop_eq_getElem_cons hkl, List.foldl_cons] at hf'
    generalize d[k] = x at *
    have hc := Lib.hid (fold_any (tb + 1 + 1) (tb + 1) n m x wr nc nf mc hx hnm m0 m1)
    have hf2 := Lib.hid hf'
    have k0 : (0 : Int) ≤ (k : Int) := by omega
    have k1 : (k : Int) < 32 := by omega
    clear hf hf' nc nf hkl
    go_wp2_with fail
    refine hc.out.mono ?_
    rintro e W3 ⟨rfl, nc, nf, hg⟩
    have mc3 : W3.cell? ⟨tb + 1, 0, none⟩ = some (.int .u64 (m : Int)) := by
     obtain ⟨o, ho, _⟩ := cells_of_cell mc
     have := (Array.getElem?_eq_some_iff.1 ho).1
     exact (World.cell?_of_block (hg.block (tb + 1) this (fun e => by cases e))).trans mc
    have hb3 := Lib.hid (below_grown hbr.out hg hbr.out.size (by have := htb.out; omega))
    have hlm : (n * 256 + x) % m < m := Nat.mod_lt _ (by omega)
    have nc' := Lib.hid nc; have nf' := Lib.hid nf
    clear hg hc mc nc nf hbr
    go_wp2_with fail
    go_roundw
    case rel => exact ⟨k + 1, (n * 256 + x) % m, by omega, by go_num, hlm, mc3, nc'.out, nf'.out, hb3, hf2⟩
    case measure => simp [intOf]; omega
  · obtain rfl : k = 32 := by omega
    have hf' := hf.out
    rw [List.drop_eq_nil_of_le (by omega), List.foldl_nil] at hf'
    have hf2 := Lib.hid hf'
    clear hf' hf
    go_wp2_with fail
    have hc : (wr.setCell ⟨tb + 1 + 1, 0, none⟩ (.int .u64 (n : Int))).cell? ⟨tb + 1 + 1, 0, none⟩ = some (.int .u64 (n : Int)) := World.cell?_setCell_same' _ _ _ (by rw [nc]; rfl)
    have hbw := hbr.out.setCell (p := ⟨tb + 1 + 1, 0, none⟩) (by rw [htb.out]; show tb ≤ tb + 1 + 1; omega) (.int .u64 (n : Int))
    generalize World.setCell wr _ _ = W5 at *
    try simp only [Exit.inBlock, Exit.then]
    refine bodyPost_ret (by simp [results, Tryz.results192, go_sem, hc]; rfl) rfl ?_
    exact ⟨by rw [hf2.out], hbw⟩

theorem restOf_lt (m : Nat) (hm : 0 < m) (l : List Nat) : restOf m l < m := by
 have : ∀ (l : List Nat) (n : Nat), n < m → l.foldl (fun n b => (n * 256 + b) % m) n < m := by
  intro l
  induction l with
  | nil => intro n h; exact h
  | cons x r ih => intro n _; exact ih _ (Nat.mod_lt _ hm)
 exact this l 0 hm

set_option maxHeartbeats 1000000 in
theorem scalar_any (tag : ByteArray) (htg : tag.size ≤ 140737488355328) (a : Option Addr) (n c : Nat) (l : List Nat) (w : World) (HT : Tabs w) (H : BS w a n c l) (hn : n ≤ 140737488355000) :
 Calls Tryz.prog 170 #[.string tag, .slice a n c] w (RetI (scalar (octets tag) l : Nat) w) := by
 have ht := Lib.hid (tagged_any tag htg a n c l w HT H hn)
 obtain ⟨t, htt⟩ : ∃ t, Hid (Sha.tagged (octets tag) l = t) := ⟨_, rfl⟩
 have hl := Sha.tagged_length (octets tag) l
 have hlt := Sha.tagged_lt (octets tag) l
 have hs : Hid (scalar (octets tag) l = 1 + restOf 2305843009213688668 t) := by rw [← htt.out]; rfl
 rw [htt.out] at ht hl hlt
 rw [hs.out]
 have hrl := restOf_lt 2305843009213688668 (by omega) t
 obtain ⟨r, hr⟩ : ∃ r, Hid (restOf 2305843009213688668 t = r) := ⟨_, rfl⟩
 have hre := fun W => rest_any t hl hlt 2305843009213688668 (by omega) (by omega) W
 rw [hr.out] at hrl hre ⊢
 have hre' := Lib.hid hre
 have r0 : (r : Int) < 2305843009213688668 := by omega
 have r1 : (0 : Int) ≤ (r : Int) := by omega
 clear HT H hs hre hl hlt hr htt
 go_enter Tryz.func170, Tryz.ntmps170
 go_wp2_with fail
 refine ht.out.mono ?_
 rintro e W1 ⟨rfl, hb1⟩
 go_wp2_with fail
 refine (hre'.out W1).mono ?_
 rintro e W2 ⟨rfl, hb2⟩
 have hb := Lib.hid (hb1.trans (hb2.mono hb1.size))
 clear hb1 hb2
 go_wp2_with fail
 go_returns
 exact ⟨by congr 2, hb.out⟩
end Go.Proofs.YtnonfdcbnkdmcaaGreatDoor
