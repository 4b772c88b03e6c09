/- rows of digests that grow; directory.Prove -/
import Derived.Test.YthnfjkgiaanmhaaDoorCpt
namespace Go.Dr
theorem path_at (l : List Lst) : ∀ (s j n k : Nat), k < s → (pathGo l s j n)[k]? = some (nodeD l (j + k) (sib (n / 2 ^ k)))
  | 0, _, _, k, h => by omega
  | s + 1, j, n, 0, _ => by simp [pathGo]
  | s + 1, j, n, k + 1, h => by
    rw [pathGo, List.getElem?_cons_succ, path_at l s (j + 1) (n / 2) k (by omega), Nat.div_div_eq_div_mul, Nat.pow_succ, Nat.mul_comm 2, show j + 1 + k = j + (k + 1) by omega]
theorem co_at : ∀ (s n k : Nat), k < s → (coGo s n)[k]? = some (sib (n / 2 ^ k))
  | 0, _, k, h => by omega
  | s + 1, n, 0, _ => by simp [coGo]
  | s + 1, n, k + 1, h => by
    rw [coGo, List.getElem?_cons_succ, co_at s (n / 2) k (by omega), Nat.div_div_eq_div_mul, Nat.pow_succ, Nat.mul_comm 2]
theorem sib_in {n k : Nat} (h0 : 512 ≤ n) (h1 : n < 1024) (hk : k < 9) : 512 ≤ sib (n / 2 ^ k) * 2 ^ k ∧ (sib (n / 2 ^ k) + 1) * 2 ^ k ≤ 1024 ∧ sib (n / 2 ^ k) < 1024 := by
  have : k = 0 ∨ k = 1 ∨ k = 2 ∨ k = 3 ∨ k = 4 ∨ k = 5 ∨ k = 6 ∨ k = 7 ∨ k = 8 := by omega
  unfold sib
  rcases this with rfl | rfl | rfl | rfl | rfl | rfl | rfl | rfl | rfl <;> split <;> omega
end Go.Dr
namespace Go.Proofs.YthnfjkgiaanmhaaDoor
open Go.RowKit Go.Mem
open Go.Dr (Lst Rt)
theorem infoDg : (Tryd.prog.info? 23).map (fun i => (i.zero.map (·.cells.size), i.size, i.bytes)) = some (some 32, 32, 32) := by kernel_rfl

theorem info_partsD : ∃ i0, Tryd.prog.info? 23 = some i0 ∧ (∃ z, i0.zero = some z ∧ z.cells.size = 32) ∧ i0.size = 32 ∧ i0.bytes = 32 := by
  have h := infoDg
  cases hq : Tryd.prog.info? 23 with
  | none => rw [hq] at h; simp at h
  | some i =>
    rw [hq] at h
    simp only [Option.map_some, Option.some.injEq, Prod.mk.injEq, Option.map_eq_some_iff] at h
    exact ⟨i, rfl, h.1, h.2.1, h.2.2⟩
/-- an owned row of digests. -/
def OwnD (B : Nat) (W : World) (v : Value) (ds : List (List Nat)) : Prop := W.ownsRow B 23 32 v ds.length (ds.map bv).flatten ∧ ∀ x ∈ ds, x.length = 32 ∧ ∀ u ∈ x, u < 256
theorem append_dg {B : Nat} {w0 W : World} {v : Value} {ds : List (List Nat)} {d : List Nat} (ho : OwnD B W v ds) (hB : B ≤ W.heap.size) (hb0 : Below B w0 W) (hd : d.length = 32 ∧ ∀ u ∈ d, u < 256) (hn : ds.length + 1 ≤ 1000000000000) :
    ∃ v' W', (∀ ty, (Builtin.append_ #[26, 26] ty #[v, .slice (some ⟨W.heap.size, 0, none⟩) 1 1]).run Tryd.prog (W.alloc (.cells (bv d).toArray 23)) = .ok v' W') ∧ OwnD B W' v' (ds ++ [d]) ∧ Below B w0 W' := by
  obtain ⟨i0, hi, ⟨z, hz0, hzs⟩, hz1, hz2⟩ := info_partsD
  have hown := World.ownsRow.alloc ho.1 (.cells (bv d).toArray 23)
  have hba := hb0.alloc hB (.cells (bv d).toArray 23)
  have hBk := Blk.new W 23 (bv d)
  obtain ⟨v', w', hr, h2, h3, _⟩ := run_append_own (P := Tryd.prog) (W.alloc (.cells (bv d).toArray 23)) B 26 0 23 i0 z 32 32 Tryd.underlying26 hi hz0 hz1 hz2 hzs (by omega) v ds.length _ hown ⟨W.heap.size, 0, none⟩ 1 1 (bv d) (by rw [bv_length, hd.1]) (fun j u hj => by rw [Addr.add_lit, Nat.zero_add]; exact hBk.at_ hj) (bv_one d) (by unfold maxLen; omega) (by omega) (by simp; omega)
  refine ⟨v', w', fun ty => ?_, ⟨?_, ?_⟩, hba.grown h3 (by simp; omega) (fun r e => (World.ownsRow.lt hown r e).1)⟩
  · rw [← hr]; rfl
  · rw [List.map_append, List.flatten_append, List.length_append]
    simpa using h2
  · intro x hx
    rcases List.mem_append.1 hx with hx | hx
    · exact ho.2 x hx
    · rw [List.mem_singleton] at hx; subst hx; exact hd

def PrvPost (l : List Lst) (dev : Int) (w : World) (e : Ending) (w' : World) : Prop :=
  (0 ≤ dev ∧ dev < 512 ∧ ∃ v, e = .returned (.tuple #[v, .int .i64 0]) ∧ OwnD w.heap.size w' v (Go.Dr.pathD l dev) ∧ Below w.heap.size w w') ∨
  (¬ (0 ≤ dev ∧ dev < 512) ∧ e = .returned (.tuple #[.slice none 0 0, .int .i64 200]) ∧ Below w.heap.size w w')

set_option maxRecDepth 20000 in
set_option maxHeartbeats 2000000 in
theorem prove_any (K : Nat → Prop) (a : Option Addr) (n c : Nat) (l : List Lst) (dev : Int) (hd : I64 dev) (w : World) (HT : Tabs w) (H : GS K w a n c l) :
    Calls Tryd.prog 10 #[.slice a n c, .int .i64 dev] w (PrvPost l dev w) := by
  have HT' := Lib.hid HT; have H' := Lib.hid H
  clear HT H
  obtain ⟨X, hX⟩ : ∃ X, X = PrvPost l dev w := ⟨_, rfl⟩
  rw [← hX]
  go_enter Tryd.func10, Tryd.ntmps10
  go_wp2_with fail
  refine (copath_any dev hd w).mono ?_
  rintro e w1 (⟨h1, h2, a2, c2, rfl, hR, hb1⟩ | ⟨hout, rfl, hb1⟩)
  · have hT1 := Lib.hid (HT'.out.below hb1); have hG1 := Lib.hid (H'.out.below hb1)
    have hR' := Lib.hid hR
    clear hR
    go_wp2_with fail
    refine (hashed_any K a n c l w1 hT1.out hG1.out).mono ?_
    rintro e w2 ⟨lb, fb, rfl, hH, hb2⟩
    have hH' := Lib.hid hH
    have hRb := Lib.hid (hR'.out.below hb2 (Nat.le_refl _))
    have hbw := Lib.hid (hb1.trans (hb2.mono hb1.size))
    obtain ⟨nn, hnn⟩ : ∃ nn : Nat, Hid (nn = 512 + dev.toNat ∧ 512 ≤ nn ∧ nn < 1024) := ⟨512 + dev.toNat, rfl, by omega, by omega⟩
    clear hH hb1 hb2 hR' hT1 hG1
    unfold hashV
    go_wp2_with fail
    go_loopw [4, 22] (fun v i wr => ∃ k : Nat, k ≤ 9 ∧ i = .int .i64 k ∧ Hid (OwnD w2.heap.size wr v ((Go.Dr.pathD l dev).take k)) ∧ Hid (Below w2.heap.size w2 wr)) (fun _ i _ => 9 - (intOf i).toNat)
    case atStart => exact ⟨0, Nat.zero_le _, rfl, ⟨World.ownsRow_nil _ _ _ _, by simp⟩, Below.refl _ _⟩
    case round =>
      obtain ⟨k, hk, rfl, ho, hbr⟩ := hrel
      by_cases hlt : k < 9
      · obtain ⟨s1, s2, s3⟩ := Go.Dr.sib_in hnn.out.2.1 hnn.out.2.2 hlt
        have hp : (Go.Dr.pathD l dev)[k]? = some (Go.Dr.nodeD l k (Go.Dr.sib (nn / 2 ^ k))) := by
          unfold Go.Dr.pathD
          rw [← hnn.out.1, Go.Dr.path_at l 9 0 nn k hlt, Nat.zero_add]
        have hco : (nv (Go.Dr.coD dev))[k]? = some (.int .i64 ((Go.Dr.sib (nn / 2 ^ k) : Nat) : Int)) := by
          unfold Go.Dr.coD nv
          rw [← hnn.out.1, List.getElem?_map, Go.Dr.co_at 9 nn k hlt]
          rfl
        obtain ⟨b2, off2, ea, hlb, hcl⟩ := hRb.out.cells (by omega)
        have c0 : wr.cell? ⟨b2, off2 + k, none⟩ = some (.int .i64 ((Go.Dr.sib (nn / 2 ^ k) : Nat) : Int)) := (hbr.out.cell (p := ⟨b2, off2 + k, none⟩) hlb).trans (hcl k _ hco)
        have hat := Lib.hid (at_any K a n c l lb fb k (Go.Dr.sib (nn / 2 ^ k)) s1 s2 wr (hH'.out.below hbr.out))
        have hDl := Go.Dr.nodeD_length l k (Go.Dr.sib (nn / 2 ^ k))
        have hDu := Go.Dr.nodeD_lt l k (Go.Dr.sib (nn / 2 ^ k))
        have htk : (Go.Dr.pathD l dev).take (k + 1) = (Go.Dr.pathD l dev).take k ++ [Go.Dr.nodeD l k (Go.Dr.sib (nn / 2 ^ k))] := by rw [List.take_add_one, hp]; rfl
        generalize Go.Dr.nodeD l k (Go.Dr.sib (nn / 2 ^ k)) = D at *
        generalize Go.Dr.sib (nn / 2 ^ k) = nd at *
        have htk' := Lib.hid htk
        have k0 : (0 : Int) ≤ (k : Int) := by omega
        have k1 : (k : Int) < 9 := by omega
        subst ea
        clear htk hp hco hcl s1 s2
        go_wp2_with fail
        refine hat.out.mono ?_
        rintro e w3 ⟨rfl, hb3⟩
        have hbr3 := hbr.out.trans (hb3.mono hbr.out.size)
        have ho3 : OwnD w2.heap.size w3 u4 ((Go.Dr.pathD l dev).take k) := ⟨Sl.owns_below ho.out.1 hb3 (Nat.le_refl _), ho.out.2⟩
        obtain ⟨v', W', hr, ho4, hb4⟩ := append_dg (d := D) ho3 hbr3.size hbr3 ⟨hDl, hDu⟩ (by rw [List.length_take]; omega)
        rw [← htk'.out] at ho4
        have hr' := Lib.hid hr; have ho4' := Lib.hid ho4; have hb4' := Lib.hid hb4
        have hbs := Lib.hid (dig_slice1 hDl w3)
        clear hr ho4 hb4 ho3 hbr3 hb3 ho hbr hat c0
        go_wp2_with (first
          | (refine wpList_buildSlice_run (by rfl) 26 1 _ rfl #[(0, .agg (bv D).toArray)] (by simp only [List.map_toArray, List.map_cons, List.map_nil]; rfl) hbs.out ?_)
          | (at_builtin; refine Lib.wpList_append_run _ rfl _ _ _ _ rfl _ _ rfl rfl _ _ (hr'.out _) ?_))
        go_roundw
        case rel => exact ⟨k + 1, by omega, by go_num, ho4', hb4'⟩
        case measure => simp [intOf]; omega
      · obtain rfl : k = 9 := by omega
        have ho2 := ho.out
        rw [List.take_of_length_le (by unfold Go.Dr.pathD; rw [Go.Dr.pathGo_length]; omega)] at ho2
        have hfin : Hid (X (.returned (.tuple #[u4, .int .i64 0])) wr) := by
          rw [hX]
          exact .inl ⟨h1, h2, u4, rfl, ⟨Sl.owns_mono ho2.1 hbw.out.size, ho2.2⟩, hbw.out.trans (hbr.out.mono hbw.out.size)⟩
        clear hX ho2 ho hbr
        go_wp2_with fail
        exact hfin.out
  · have hfin : Hid (X (.returned (.tuple #[.slice none 0 0, .int .i64 200])) w1) := by rw [hX]; exact .inr ⟨hout, rfl, hb1⟩
    clear hX
    go_wp2_with fail
    exact hfin.out
end Go.Proofs.YthnfjkgiaanmhaaDoor
