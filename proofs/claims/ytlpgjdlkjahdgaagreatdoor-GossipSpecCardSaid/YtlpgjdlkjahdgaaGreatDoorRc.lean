/- slices.Clip at roots; directory.Tick -/
import Derived.Test.YtlpgjdlkjahdgaaGreatDoorAl
import Derived.Test.YtlpgjdlkjahdgaaGreatDoorRa
import Derived.Deep.RegionLawGrows
namespace Go.Dr
theorem chk_len : ∀ {l : List Lst} {p : Int}, chkGo p l = true → -1 ≤ p → p ≤ 511 → (l.length : Int) ≤ 511 - p
 | [], p, _, h1, h2 => by simp only [List.length_nil]; omega
 | x :: r, p, h, h1, h2 => by
  rw [chkGo_cons] at h
  have hd := fits_dev h.1
  have := chk_len h.2.2 (by omega) (by omega)
  simp only [List.length_cons]
  omega
theorem chkL_len {l : List Lst} (h : chkL l = true) : l.length ≤ 512 := by have := chk_len h (by omega) (by omega); omega
end Go.Dr
namespace Go.Proofs.YtlpgjdlkjahdgaaGreatDoor
open Go.RowKit Go.Mem
open Go.Dr (Lst Rt Dir)

theorem signK_at {p : Int} (hk : keyOk p = true) (msg : List Nat) : ∃ R S, signK 4 p msg = (R, S, 0) ∧ I64 R ∧ I64 S := by
 obtain ⟨R, S, h1, h2⟩ := ver_sign base_ok hk msg
 exact ⟨R, S, h1, ver_bd h2⟩
theorem reads_holds {w W : World} {a : Option Addr} {n c sz : Nat} {xs : List Value} (h : Sl.Reads w a n c sz xs) (hb : Below w.heap.size w W) : ∀ b, a = some b → ∀ j u, xs[j]? = some u → W.cell? (b.add j) = some u := fun b e => by
 subst e
 exact (h.below hb (Nat.le_refl _)).news
theorem new_cells (W : World) (t : TypeId) (r : List Value) : ∀ (j : Nat) u, r[j]? = some u → (W.alloc (.cells r.toArray t)).cell? ((⟨W.heap.size, 0, none⟩ : Addr).add j) = some u := fun j u hj => by
 rw [Addr.add_lit, Nat.zero_add]
 exact (Blk.new W t r).at_ hj

theorem clipR_any (a : Option Addr) (n c : Nat) (hn : n ≤ c) (hc : c ≤ 9223372036854775807) (hs : a = none → n = 0 ∧ c = 0) (w : World) :
 Calls Tryz.prog 173 #[.slice a n c] w fun e w' => e = .returned (.slice a n n) ∧ w' = w := by
 have n0 : (0 : Int) ≤ (n : Int) := by omega
 have n1 : (n : Int) ≤ (c : Int) := by omega
 cases a with
 | none =>
  obtain ⟨rfl, rfl⟩ := hs rfl
  go_enter Tryz.func173, Tryz.ntmps173
  go_wp2_with fail
  go_ret
  exact ⟨rfl, rfl⟩
 | some ad =>
  go_enter Tryz.func173, Tryz.ntmps173
  go_wp2_with fail
  go_ret
  exact ⟨rfl, rfl⟩

structure DM (K : Nat → Prop) (w : World) (D : Dir) (la : Option Addr) (ln lc : Nat) (ra : Option Addr) (rn rc : Nat) : Prop where
 pr : I64 D.priv
 gs : GS K w la ln lc D.ls
 qs : QS K w ra rn rc D.rs
theorem DM.below {K : Nat → Prop} {w w' : World} {D : Dir} {la : Option Addr} {ln lc : Nat} {ra : Option Addr} {rn rc : Nat} (h : DM K w D la ln lc ra rn rc) (hb : Below w.heap.size w w') : DM K w' D la ln lc ra rn rc := ⟨h.pr, h.gs.below hb, h.qs.below hb⟩
theorem DM.imp {K K' : Nat → Prop} {w : World} {D : Dir} {la : Option Addr} {ln lc : Nat} {ra : Option Addr} {rn rc : Nat} (h : DM K w D la ln lc ra rn rc) (hK : ∀ b, b < w.heap.size → K b → K' b) : DM K' w D la ln lc ra rn rc := ⟨h.pr, h.gs.imp hK, h.qs.imp hK⟩
theorem DM.keep {K : Nat → Prop} {w w' : World} {D : Dir} {la : Option Addr} {ln lc : Nat} {ra : Option Addr} {rn rc : Nat} (h : DM K w D la ln lc ra rn rc) (hk : Keeps K w w') : DM K w' D la ln lc ra rn rc := ⟨h.pr, h.gs.keep hk, h.qs.keep hk⟩
def TickPost (x : Dir × Int) (la : Option Addr) (ln lc : Nat) (w : World) (e : Ending) (w' : World) : Prop :=
 (x.2 = 0 ∧ ∃ ra rn rc, e = .returned (.tuple #[.agg (dirC x.1.priv la ln lc ra rn rc).toArray, .int .i64 0]) ∧ QS (fun b => w.heap.size ≤ b) w' ra rn rc x.1.rs ∧ Below w.heap.size w w') ∨
 (x.2 ≠ 0 ∧ e = .returned (.tuple #[.agg (dirC 0 none 0 0 none 0 0).toArray, .int .i64 x.2]) ∧ Below w.heap.size w w')

theorem okZ : OkQ Go.Dr.zeroR := ⟨i64_0, by simp [Go.Dr.zeroR, Go.Dr.zd], by simp [Go.Dr.zeroR, Go.Dr.zd], by simp [Go.Dr.zeroR, Go.Dr.zd], by simp [Go.Dr.zeroR, Go.Dr.zd], i64_0, i64_0⟩
set_option maxRecDepth 20000 in
theorem root_build0 (m : Int) (f : Nat → Nat) (W : World) : (Instr.build 62 #[(0, .int .i64 m), (1, .agg (bv (rD f)).toArray)]).run Tryz.prog W = .ok (.agg (rC ⟨m, rD f, Go.Dr.zd, 0, 0⟩).toArray) W := by
 unfold rD
 kernel_rfl
theorem root_build {D : List Nat} (hD : D.length = 32) (m : Int) (W : World) : (Instr.build 62 #[(0, .int .i64 m), (1, .agg (bv D).toArray)]).run Tryz.prog W = .ok (.agg (rC ⟨m, D, Go.Dr.zd, 0, 0⟩).toArray) W := by
 have h := root_build0 m (fD D) W
 rwa [rD_fD hD] at h
set_option maxRecDepth 20000 in
theorem root_slice0 (m r s : Int) (f g : Nat → Nat) (W : World) :
 (Instr.buildSlice 67 1 #[(0, .agg (rC ⟨m, rD f, rD g, r, s⟩).toArray)]).run Tryz.prog W = .ok (.slice (some ⟨W.heap.size, 0, none⟩) 1 1) (W.alloc (.cells (rC ⟨m, rD f, rD g, r, s⟩).toArray 62)) := by
 unfold rD
 kernel_rfl
theorem root_slice1 {x : Rt} (hx : OkQ x) (W : World) : (Instr.buildSlice 67 1 #[(0, .agg (rC x).toArray)]).run Tryz.prog W = .ok (.slice (some ⟨W.heap.size, 0, none⟩) 1 1) (W.alloc (.cells (rC x).toArray 62)) := by
 have h := root_slice0 x.no x.r x.s (fD x.dig) (fD x.prev) W
 rwa [rD_fD hx.dig, rD_fD hx.prev] at h
structure PutP (W W9 : World) (g o : Nat) (x : Rt) (vs : List Value) : Prop where
 there : W.there g o vs.toArray.size
 one : ∀ u ∈ vs, u.oneCell' = true
 eq : W9 = W.setCells g o vs
 blk : Blk W9 g 62 (rC x)
 grown : W.grownBy W9 (some g)
theorem there_part {W : World} {g : Nat} {t : TypeId} {cs : List Value} (h : Blk W g t cs) {o n : Nat} (hn : o + n ≤ cs.length) : W.there g o n := fun j hj => by
 have := h.there (o + j) (by omega)
 rwa [Nat.zero_add] at this
theorem put_prev {W : World} {g : Nat} {x : Rt} (hx : OkQ x) (hB : Blk W g 62 (rC x)) {D : List Nat} (hD : D.length = 32) : ∃ W9, PutP W W9 g 33 { x with prev := D } (bv D) := by
 have h1 : rC x = (.int .i64 x.no :: bv x.dig) ++ bv x.prev ++ [.int .i64 x.r, .int .i64 x.s] := by simp [rC]
 have hl : (.int .i64 x.no :: bv x.dig : List Value).length = 33 := by simp [bv_length, hx.dig]
 refine ⟨_, ?_, bv_one D, rfl, ?_, grown_setCells _ (World.grownBy.refl W _)⟩
 · rw [List.size_toArray, bv_length, hD]; exact there_part hB (by rw [rC_length hx]; omega)
 · have hB' := hB
   rw [h1] at hB'
   have := Blk.setCells (bv D) hB' (by rw [bv_length, bv_length, hx.prev, hD])
   rw [hl] at this
   have e : rC { x with prev := D } = (.int .i64 x.no :: bv x.dig) ++ bv D ++ [.int .i64 x.r, .int .i64 x.s] := by simp [rC]
   rw [e]; exact this
theorem put_sig {W : World} {g : Nat} {x : Rt} (hx : OkQ x) (hB : Blk W g 62 (rC x)) (r s : Int) : ∃ W9, PutP W W9 g 65 { x with r := r, s := s } [.int .i64 r, .int .i64 s] := by
 have h1 : rC x = (.int .i64 x.no :: (bv x.dig ++ bv x.prev)) ++ [.int .i64 x.r, .int .i64 x.s] ++ [] := by simp [rC]
 have hl : (.int .i64 x.no :: (bv x.dig ++ bv x.prev) : List Value).length = 65 := by simp [bv_length, hx.dig, hx.prev]
 refine ⟨_, ?_, by intro u hu; simp only [List.mem_cons, List.not_mem_nil, or_false] at hu; rcases hu with rfl | rfl <;> rfl, rfl, ?_, grown_setCells _ (World.grownBy.refl W _)⟩
 · exact there_part hB (by rw [rC_length hx]; simp)
 · have hB' := hB
   rw [h1] at hB'
   have := Blk.setCells [.int .i64 r, .int .i64 s] hB' rfl
   rw [hl] at this
   have e : rC { x with r := r, s := s } = (.int .i64 x.no :: (bv x.dig ++ bv x.prev)) ++ [.int .i64 r, .int .i64 s] ++ [] := by simp [rC]
   rw [e]; exact this

def TgW (w : World) (tb : Nat) (r z : List Value) (g : Nat) (wz : World) : Prop := Blk wz tb 113 r ∧ Blk wz (tb + 1) 113 z ∧ (∃ R, OkQ R ∧ Blk wz g 62 (rC R)) ∧ Below w.heap.size w wz
section
variable {w wz wq : World} {tb g : Nat} {r z : List Value}
theorem TgW.drew (h : TgW w tb r z g wz) : TgW w tb r z g wz.drew := ⟨h.1, h.2.1, h.2.2.1, h.2.2.2.drew⟩
theorem TgW.next (h : TgW w tb r z g wz) (hb : Below wz.heap.size wz wq) : TgW w tb r z g wq := by
 obtain ⟨R, hR, hB⟩ := h.2.2.1
 exact ⟨h.1.below hb h.1.lt, h.2.1.below hb h.2.1.lt, ⟨R, hR, hB.below hb hB.lt⟩, h.2.2.2.trans (hb.mono h.2.2.2.size)⟩
end
def ThW (w : World) (tb : Nat) (p : Int) (la : Option Addr) (ln lc : Nat) (z : List Value) (g : Nat) (R : List Value) (wz : World) : Prop := (∃ a n c, Blk wz tb 113 (dirC p la ln lc a n c)) ∧ Blk wz (tb + 1) 113 z ∧ Blk wz g 62 R ∧ Below w.heap.size w wz
section
variable {w wz wq : World} {tb g : Nat} {p : Int} {la : Option Addr} {ln lc : Nat} {z R : List Value}
theorem ThW.drew (h : ThW w tb p la ln lc z g R wz) : ThW w tb p la ln lc z g R wz.drew := ⟨h.1, h.2.1, h.2.2.1, h.2.2.2.drew⟩
theorem ThW.next (h : ThW w tb p la ln lc z g R wz) (hb : Below wz.heap.size wz wq) : ThW w tb p la ln lc z g R wq := by
 obtain ⟨a, n, c, hB⟩ := h.1
 exact ⟨⟨a, n, c, hB.below hb hB.lt⟩, h.2.1.below hb h.2.1.lt, h.2.2.1.below hb h.2.2.1.lt, h.2.2.2.trans (hb.mono h.2.2.2.size)⟩
end
theorem qs_snoc {K : Nat → Prop} {w w' : World} {B n : Nat} {l : List Rt} {rows : List (List Value)} {x : Rt} {v : Value}
 (hO : RowsOf 67 (QV w) l rows) (hx : OkQ x) (hl : l.length = n) (hown : w'.ownsRow B 62 67 v (n + 1) (rows.flatten ++ rC x)) (hK : ∀ b, B ≤ b → K b) :
 ∃ a2 c2, v = .slice a2 (n + 1) c2 ∧ QS K w' a2 (n + 1) c2 (l ++ [x]) := by
 obtain ⟨a2, c2, rfl, hR, hsep⟩ := Sl.of_owns hown
 have hO3 := hO.append (RowsOf.one (R := QV w) (e := x) (r := rC x) ⟨hx, rfl⟩ (rC_length hx))
 refine ⟨a2, c2, rfl, ⟨by simp [hl], fun _ ad e => ?_, _, ?_, hO3⟩⟩
 · exact hK _ (hsep ad e).1
 · rw [List.flatten_append, List.flatten_singleton]
   exact hR

set_option maxRecDepth 20000 in
set_option maxHeartbeats 2000000 in
theorem tick_key (K : Nat → Prop) (D : Dir) (la : Option Addr) (ln lc : Nat) (ra : Option Addr) (rn rc : Nat) (w : World) (HT : Tabs w) (H : DM K w D la ln lc ra rn rc) (hk : keyOk D.priv = false) :
 Calls Tryz.prog 129 #[.agg (dirC D.priv la ln lc ra rn rc).toArray] w (fun e w' => e = .returned (.tuple #[.agg (dirC 0 none 0 0 none 0 0).toArray, .int .i64 50]) ∧ Below w.heap.size w w') := by
 suffices hh : ∀ X : Ending → World → Prop, (∀ W9, Below w.heap.size w W9 → X (.returned (.tuple #[.agg (dirC 0 none 0 0 none 0 0).toArray, .int .i64 50])) W9) → Calls Tryz.prog 129 #[.agg (dirC D.priv la ln lc ra rn rc).toArray] w X from hh _ (fun W9 h => ⟨rfl, h⟩)
 intro X hX0
 have hX := Lib.hid hX0
 clear hX0
 have HT' := Lib.hid HT; have hgs := Lib.hid H.gs; have hqs := Lib.hid H.qs; have hpr := Lib.hid H.pr
 obtain ⟨tb, htb⟩ : ∃ tb, Hid (w.heap.size = tb) := ⟨_, rfl⟩
 have hpv := Lib.hid (private_any D.priv)
 have hck := Lib.hid (dcheck_any K la ln lc D.ls)
 have hrn : Hid (D.rs.length = rn) := RS.len H.qs
 have rnx : (rn : Int) ≤ 9223372036854775807 := by have := RS.le H.qs; have := RS.max H.qs; omega
 clear HT H
 go_enter Tryz.func129, Tryz.ntmps129
 go_upto_region 1 with fail
 rw [htb.out]
 generalize hW : World.alloc _ _ = W
 have hB : Hid (Blk W tb 113 (dirC D.priv la ln lc ra rn rc)) := by rw [← hW, ← htb.out]; exact (Blk.new w _ (dirC D.priv la ln lc ra rn rc)).alloc _
 have hZ : Hid (Blk W (tb + 1) 113 (dirC 0 none 0 0 none 0 0)) := by
  rw [← hW, ← htb.out]
  have := Blk.new (w.alloc (.cells (dirC D.priv la ln lc ra rn rc).toArray 113)) 113 (dirC 0 none 0 0 none 0 0)
  rwa [World.size_alloc] at this
 have hb : Hid (Below w.heap.size w W) := by rw [← hW]; exact ((Below.refl _ w).alloc (Nat.le_refl _) _).alloc (by simp) _
 clear hW
 have c0 := hB.out.at_ (i := 0) (x := .int .i64 D.priv) rfl
 have c1 := hB.out.at_ (i := 1) (x := .slice la ln lc) rfl
 have c2 := hB.out.at_ (i := 2) (x := .slice ra rn rc) rfl
 go_wp2_with fail
 refine (hpv.out _).mono ?_
 rintro e wx ⟨rfl, hwx⟩
 rw [hwx]
 clear hwx wx
 rw [hk]
 have hbv := hb; have hZv := hZ
 clear hb hZ hB c0 c1 c2
 obtain ⟨WV, hWV⟩ : ∃ V, V = W := ⟨_, rfl⟩
 rw [← hWV] at hbv hZv ⊢
 clear hWV
 obtain ⟨W9, hP⟩ := put_row (ty := 113) hZv.out (x := dirC 0 none 0 0 none 0 0) rfl sizeDr (by intro u hu; simp only [dirC, List.mem_cons, List.not_mem_nil, or_false] at hu; rcases hu with rfl | rfl | rfl <;> rfl)
 have hbk := Lib.hid hP.blk
 have hfin := Lib.hid (hX.out _ (below_grown hbv.out hP.grown hbv.out.size (by have := htb.out; omega)))
 have hP' := Lib.hid hP
 clear hP hX
 obtain ⟨z, hz⟩ : ∃ z, Hid (dirC 0 none 0 0 none 0 0 = z) := ⟨_, rfl⟩
 have hzr := Lib.hid hZv.out.range
 have hzi : Hid ((Tryz.prog.info? 113).map (·.size) = some (dirC 0 none 0 0 none 0 0).length) := sizeDr
 rw [hz.out] at hP' hzr hzi hbk hfin
 clear hZv hbv
 go_wp2_with (first
  | (refine wpList_load_mid (by rfl) 113 (.tmp 2) (by rfl) (tb + 1) 0 (by rfl) z _ hzr.out Tryz.underlying113 (by rfl) hzi.out ?_)
   | (refine wpList_store_mid (by rfl) 113 (.tmp 2) (.tmp 9) (by rfl) (tb + 1) 0 z.toArray (by rfl) (by rfl) hP'.out.there hP'.out.info (by simpa using hP'.out.one) ?_
      generalize hWq : World.setCells _ _ _ _ = Wa
      obtain rfl : W9 = Wa := by rw [← hWq]; exact hP'.out.eq
      clear hWq))
 refine ret_cell_tmp (p := 2) (u := 3) rfl hbk.out Tryz.underlying113 rfl hzi.out rfl rfl rfl ?_
 exact hfin.out

set_option maxRecDepth 20000 in
set_option maxHeartbeats 2000000 in
theorem tick_chk (K : Nat → Prop) (D : Dir) (la : Option Addr) (ln lc : Nat) (ra : Option Addr) (rn rc : Nat) (w : World) (HT : Tabs w) (H : DM K w D la ln lc ra rn rc) (hk : keyOk D.priv = true) (hc : Go.Dr.chkL D.ls = false) :
 Calls Tryz.prog 129 #[.agg (dirC D.priv la ln lc ra rn rc).toArray] w (fun e w' => e = .returned (.tuple #[.agg (dirC 0 none 0 0 none 0 0).toArray, .int .i64 350]) ∧ Below w.heap.size w w') := by
 suffices hh : ∀ X : Ending → World → Prop, (∀ W9, Below w.heap.size w W9 → X (.returned (.tuple #[.agg (dirC 0 none 0 0 none 0 0).toArray, .int .i64 350])) W9) → Calls Tryz.prog 129 #[.agg (dirC D.priv la ln lc ra rn rc).toArray] w X from hh _ (fun W9 h => ⟨rfl, h⟩)
 intro X hX0
 have hX := Lib.hid hX0
 clear hX0
 have HT' := Lib.hid HT; have hgs := Lib.hid H.gs; have hqs := Lib.hid H.qs; have hpr := Lib.hid H.pr
 obtain ⟨tb, htb⟩ : ∃ tb, Hid (w.heap.size = tb) := ⟨_, rfl⟩
 have hpv := Lib.hid (private_any D.priv)
 have hck := Lib.hid (dcheck_any K la ln lc D.ls)
 have hrn : Hid (D.rs.length = rn) := RS.len H.qs
 have rnx : (rn : Int) ≤ 9223372036854775807 := by have := RS.le H.qs; have := RS.max H.qs; omega
 clear HT H
 go_enter Tryz.func129, Tryz.ntmps129
 go_upto_region 1 with fail
 rw [htb.out]
 generalize hW : World.alloc _ _ = W
 have hB : Hid (Blk W tb 113 (dirC D.priv la ln lc ra rn rc)) := by rw [← hW, ← htb.out]; exact (Blk.new w _ (dirC D.priv la ln lc ra rn rc)).alloc _
 have hZ : Hid (Blk W (tb + 1) 113 (dirC 0 none 0 0 none 0 0)) := by
  rw [← hW, ← htb.out]
  have := Blk.new (w.alloc (.cells (dirC D.priv la ln lc ra rn rc).toArray 113)) 113 (dirC 0 none 0 0 none 0 0)
  rwa [World.size_alloc] at this
 have hb : Hid (Below w.heap.size w W) := by rw [← hW]; exact ((Below.refl _ w).alloc (Nat.le_refl _) _).alloc (by simp) _
 clear hW
 have c0 := hB.out.at_ (i := 0) (x := .int .i64 D.priv) rfl
 have c1 := hB.out.at_ (i := 1) (x := .slice la ln lc) rfl
 have c2 := hB.out.at_ (i := 2) (x := .slice ra rn rc) rfl
 go_wp2_with fail
 refine (hpv.out _).mono ?_
 rintro e wx ⟨rfl, hwx⟩
 rw [hwx]
 clear hwx wx
 rw [hk]
 go_wp2_with fail
 refine (hck.out _ (hgs.out.below hb.out)).mono ?_
 rintro e w1 ⟨rfl, hb1⟩
 have hB1 := Lib.hid (hB.out.below hb1 hB.out.lt)
 have hZ1 := Lib.hid (hZ.out.below hb1 hZ.out.lt)
 have hb1' := Lib.hid (hb.out.trans (hb1.mono hb.out.size))
 have d0 := hB1.out.at_ (i := 0) (x := .int .i64 D.priv) rfl
 have d1 := hB1.out.at_ (i := 1) (x := .slice la ln lc) rfl
 have d2 := hB1.out.at_ (i := 2) (x := .slice ra rn rc) rfl
 clear hb1 hB hZ hb c0 c1 c2
 rw [hc]
 have hbv := hb1'; have hZv := hZ1
 clear hb1' hZ1 hB1
 obtain ⟨WV, hWV⟩ : ∃ V, V = w1 := ⟨_, rfl⟩
 rw [← hWV] at hbv hZv d0 d1 d2 ⊢
 clear hWV
 rw [if_neg (by simp)]
 obtain ⟨W9, hP⟩ := put_row (ty := 113) hZv.out (x := dirC 0 none 0 0 none 0 0) rfl sizeDr (by intro u hu; simp only [dirC, List.mem_cons, List.not_mem_nil, or_false] at hu; rcases hu with rfl | rfl | rfl <;> rfl)
 have hbk := Lib.hid hP.blk
 have hfin := Lib.hid (hX.out _ (below_grown hbv.out hP.grown hbv.out.size (by have := htb.out; omega)))
 have hP' := Lib.hid hP
 clear hP hX
 obtain ⟨z, hz⟩ : ∃ z, Hid (dirC 0 none 0 0 none 0 0 = z) := ⟨_, rfl⟩
 have hzr := Lib.hid hZv.out.range
 have hzi : Hid ((Tryz.prog.info? 113).map (·.size) = some (dirC 0 none 0 0 none 0 0).length) := sizeDr
 rw [hz.out] at hP' hzr hzi hbk hfin
 clear hZv hbv
 go_wp2_with (first
  | (refine wpList_load_mid (by rfl) 113 (.tmp 2) (by rfl) (tb + 1) 0 (by rfl) z _ hzr.out Tryz.underlying113 (by rfl) hzi.out ?_)
   | (refine wpList_store_mid (by rfl) 113 (.tmp 2) (.tmp 15) (by rfl) (tb + 1) 0 z.toArray (by rfl) (by rfl) hP'.out.there hP'.out.info (by simpa using hP'.out.one) ?_
      generalize hWq : World.setCells _ _ _ _ = Wa
      obtain rfl : W9 = Wa := by rw [← hWq]; exact hP'.out.eq
      clear hWq))
 refine ret_cell_tmp (p := 2) (u := 3) rfl hbk.out Tryz.underlying113 rfl hzi.out rfl rfl rfl ?_
 exact hfin.out

set_option maxRecDepth 20000 in
set_option maxHeartbeats 2000000 in
theorem tick_lim (K : Nat → Prop) (D : Dir) (la : Option Addr) (ln lc : Nat) (ra : Option Addr) (rn rc : Nat) (w : World) (HT : Tabs w) (H : DM K w D la ln lc ra rn rc) (hk : keyOk D.priv = true) (hc : Go.Dr.chkL D.ls = true) (hl : 65536 ≤ D.rs.length) :
 Calls Tryz.prog 129 #[.agg (dirC D.priv la ln lc ra rn rc).toArray] w (fun e w' => e = .returned (.tuple #[.agg (dirC 0 none 0 0 none 0 0).toArray, .int .i64 2]) ∧ Below w.heap.size w w') := by
 suffices hh : ∀ X : Ending → World → Prop, (∀ W9, Below w.heap.size w W9 → X (.returned (.tuple #[.agg (dirC 0 none 0 0 none 0 0).toArray, .int .i64 2])) W9) → Calls Tryz.prog 129 #[.agg (dirC D.priv la ln lc ra rn rc).toArray] w X from hh _ (fun W9 h => ⟨rfl, h⟩)
 intro X hX0
 have hX := Lib.hid hX0
 clear hX0
 have HT' := Lib.hid HT; have hgs := Lib.hid H.gs; have hqs := Lib.hid H.qs; have hpr := Lib.hid H.pr
 obtain ⟨tb, htb⟩ : ∃ tb, Hid (w.heap.size = tb) := ⟨_, rfl⟩
 have hpv := Lib.hid (private_any D.priv)
 have hck := Lib.hid (dcheck_any K la ln lc D.ls)
 have hrn : Hid (D.rs.length = rn) := RS.len H.qs
 have rnx : (rn : Int) ≤ 9223372036854775807 := by have := RS.le H.qs; have := RS.max H.qs; omega
 clear HT H
 go_enter Tryz.func129, Tryz.ntmps129
 go_upto_region 1 with fail
 rw [htb.out]
 generalize hW : World.alloc _ _ = W
 have hB : Hid (Blk W tb 113 (dirC D.priv la ln lc ra rn rc)) := by rw [← hW, ← htb.out]; exact (Blk.new w _ (dirC D.priv la ln lc ra rn rc)).alloc _
 have hZ : Hid (Blk W (tb + 1) 113 (dirC 0 none 0 0 none 0 0)) := by
  rw [← hW, ← htb.out]
  have := Blk.new (w.alloc (.cells (dirC D.priv la ln lc ra rn rc).toArray 113)) 113 (dirC 0 none 0 0 none 0 0)
  rwa [World.size_alloc] at this
 have hb : Hid (Below w.heap.size w W) := by rw [← hW]; exact ((Below.refl _ w).alloc (Nat.le_refl _) _).alloc (by simp) _
 clear hW
 have c0 := hB.out.at_ (i := 0) (x := .int .i64 D.priv) rfl
 have c1 := hB.out.at_ (i := 1) (x := .slice la ln lc) rfl
 have c2 := hB.out.at_ (i := 2) (x := .slice ra rn rc) rfl
 go_wp2_with fail
 refine (hpv.out _).mono ?_
 rintro e wx ⟨rfl, hwx⟩
 rw [hwx]
 clear hwx wx
 rw [hk]
 go_wp2_with fail
 refine (hck.out _ (hgs.out.below hb.out)).mono ?_
 rintro e w1 ⟨rfl, hb1⟩
 have hB1 := Lib.hid (hB.out.below hb1 hB.out.lt)
 have hZ1 := Lib.hid (hZ.out.below hb1 hZ.out.lt)
 have hb1' := Lib.hid (hb.out.trans (hb1.mono hb.out.size))
 have d0 := hB1.out.at_ (i := 0) (x := .int .i64 D.priv) rfl
 have d1 := hB1.out.at_ (i := 1) (x := .slice la ln lc) rfl
 have d2 := hB1.out.at_ (i := 2) (x := .slice ra rn rc) rfl
 clear hb1 hB hZ hb c0 c1 c2
 rw [hc]
 have hbv := hb1'; have hZv := hZ1
 clear hb1' hZ1 hB1
 obtain ⟨WV, hWV⟩ : ∃ V, V = w1 := ⟨_, rfl⟩
 rw [← hWV] at hbv hZv d0 d1 d2 ⊢
 clear hWV
 rw [if_pos rfl]
 have hge : decide ((65536 : Int) ≤ (rn : Int)) = true := by have := hrn.out; simp; omega
 obtain ⟨W9, hP⟩ := put_row (ty := 113) hZv.out (x := dirC 0 none 0 0 none 0 0) rfl sizeDr (by intro u hu; simp only [dirC, List.mem_cons, List.not_mem_nil, or_false] at hu; rcases hu with rfl | rfl | rfl <;> rfl)
 have hbk := Lib.hid hP.blk
 have hfin := Lib.hid (hX.out _ (below_grown hbv.out hP.grown hbv.out.size (by have := htb.out; omega)))
 have hP' := Lib.hid hP
 clear hP hX
 obtain ⟨z, hz⟩ : ∃ z, Hid (dirC 0 none 0 0 none 0 0 = z) := ⟨_, rfl⟩
 have hzr := Lib.hid hZv.out.range
 have hzi : Hid ((Tryz.prog.info? 113).map (·.size) = some (dirC 0 none 0 0 none 0 0).length) := sizeDr
 rw [hz.out] at hP' hzr hzi hbk hfin
 clear hZv hbv
 go_wp2_with (first
  | (refine wpList_load_mid (by rfl) 113 (.tmp 2) (by rfl) (tb + 1) 0 (by rfl) z _ hzr.out Tryz.underlying113 (by rfl) hzi.out ?_)
   | (refine wpList_store_mid (by rfl) 113 (.tmp 2) (.tmp 21) (by rfl) (tb + 1) 0 z.toArray (by rfl) (by rfl) hP'.out.there hP'.out.info (by simpa using hP'.out.one) ?_
      generalize hWq : World.setCells _ _ _ _ = Wa
      obtain rfl : W9 = Wa := by rw [← hWq]; exact hP'.out.eq
      clear hWq))
 refine ret_cell_tmp (p := 2) (u := 3) rfl hbk.out Tryz.underlying113 rfl hzi.out rfl rfl rfl ?_
 exact hfin.out

theorem sizeSg2 : (Tryz.prog.info? 45).map (·.size) = some (#[.int .i64 0, .int .i64 0] : Array Value).size := by kernel_rfl
set_option maxRecDepth 20000 in
set_option maxHeartbeats 8000000 in
theorem tick_ok (K : Nat → Prop) (D : Dir) (la : Option Addr) (ln lc : Nat) (ra : Option Addr) (rn rc : Nat) (w : World) (HT : Tabs w) (H : DM K w D la ln lc ra rn rc) (hk : keyOk D.priv = true) (hc : Go.Dr.chkL D.ls = true) (hl : D.rs.length < 65536) :
 Calls Tryz.prog 129 #[.agg (dirC D.priv la ln lc ra rn rc).toArray] w (fun e w' => ∃ a n c, e = .returned (.tuple #[.agg (dirC D.priv la ln lc a n c).toArray, .int .i64 0]) ∧ QS (fun b => w.heap.size ≤ b) w' a n c (D.rs ++ [Go.Dr.nextR 4 D]) ∧ Below w.heap.size w w') := by
 suffices hh : ∀ X : Ending → World → Prop, (∀ a n c W9, QS (fun b => w.heap.size ≤ b) W9 a n c (D.rs ++ [Go.Dr.nextR 4 D]) → Below w.heap.size w W9 → X (.returned (.tuple #[.agg (dirC D.priv la ln lc a n c).toArray, .int .i64 0])) W9) → Calls Tryz.prog 129 #[.agg (dirC D.priv la ln lc ra rn rc).toArray] w X from hh _ (fun a n c W9 h1 h2 => ⟨a, n, c, rfl, h1, h2⟩)
 intro X hX00
 have hX0 := Lib.hid hX00
 clear hX00
 have hle : Hid (rn ≤ rc) := RS.le H.qs
 have hmx : Hid (rc ≤ 9223372036854775807) := RS.max H.qs
 have hnil : Hid (ra = none → rn = 0 ∧ rc = 0) := RS.nil' H.qs
 obtain ⟨rows, hRd0, hRo0⟩ := H.qs.rows
 have hRd := Lib.hid hRd0; have hRo := Lib.hid hRo0
 clear hRd0 hRo0
 obtain ⟨i0, hi, hz0, hz1, hz2⟩ := info_parts infoR
 have HT' := Lib.hid HT; have hgs := Lib.hid H.gs; have hqs := Lib.hid H.qs; have hpr := Lib.hid H.pr
 obtain ⟨tb, htb⟩ : ∃ tb, Hid (w.heap.size = tb) := ⟨_, rfl⟩
 have hpv := Lib.hid (private_any D.priv)
 have hck := Lib.hid (dcheck_any K la ln lc D.ls)
 have hrn : Hid (D.rs.length = rn) := RS.len H.qs
 have rnx : (rn : Int) ≤ 9223372036854775807 := by have := RS.le H.qs; have := RS.max H.qs; omega
 clear HT H
 go_enter Tryz.func129, Tryz.ntmps129
 go_upto_region 1 with fail
 rw [htb.out]
 generalize hW : World.alloc _ _ = W
 have hB : Hid (Blk W tb 113 (dirC D.priv la ln lc ra rn rc)) := by rw [← hW, ← htb.out]; exact (Blk.new w _ (dirC D.priv la ln lc ra rn rc)).alloc _
 have hZ : Hid (Blk W (tb + 1) 113 (dirC 0 none 0 0 none 0 0)) := by
  rw [← hW, ← htb.out]
  have := Blk.new (w.alloc (.cells (dirC D.priv la ln lc ra rn rc).toArray 113)) 113 (dirC 0 none 0 0 none 0 0)
  rwa [World.size_alloc] at this
 have hb : Hid (Below w.heap.size w W) := by rw [← hW]; exact ((Below.refl _ w).alloc (Nat.le_refl _) _).alloc (by simp) _
 clear hW
 have c0 := hB.out.at_ (i := 0) (x := .int .i64 D.priv) rfl
 have c1 := hB.out.at_ (i := 1) (x := .slice la ln lc) rfl
 have c2 := hB.out.at_ (i := 2) (x := .slice ra rn rc) rfl
 go_wp2_with fail
 refine (hpv.out _).mono ?_
 rintro e wx ⟨rfl, hwx⟩
 rw [hwx]
 clear hwx wx
 rw [hk]
 go_wp2_with fail
 refine (hck.out _ (hgs.out.below hb.out)).mono ?_
 rintro e w1 ⟨rfl, hb1⟩
 have hB1 := Lib.hid (hB.out.below hb1 hB.out.lt)
 have hZ1 := Lib.hid (hZ.out.below hb1 hZ.out.lt)
 have hb1' := Lib.hid (hb.out.trans (hb1.mono hb.out.size))
 have d0 := hB1.out.at_ (i := 0) (x := .int .i64 D.priv) rfl
 have d1 := hB1.out.at_ (i := 1) (x := .slice la ln lc) rfl
 have d2 := hB1.out.at_ (i := 2) (x := .slice ra rn rc) rfl
 clear hb1 hB hZ hb c0 c1 c2
 rw [hc, if_pos rfl]
 have hlt := hrn.out
 have hge : decide ((65536 : Int) ≤ (rn : Int)) = false := by simp; omega
 have rn16 : (rn : Int) ≤ 65535 := by omega
 have rn0 : (0 : Int) ≤ (rn : Int) := by omega
 clear hlt
 obtain ⟨D0, hD0⟩ : ∃ D0, Hid (Go.Dr.rootD D.ls = D0) := ⟨_, rfl⟩
 have hDl : Hid (D0.length = 32) := by rw [← hD0.out]; exact Go.Dr.nodeD_length D.ls 9 1
 have hDu : Hid (∀ u ∈ D0, u < 256) := by rw [← hD0.out]; exact Go.Dr.nodeD_lt D.ls 9 1
 have hbl := Lib.hid (root_build hDl.out ((rn : Int) + 1))
 have hR0 : Hid (OkQ ⟨(rn : Int) + 1, D0, Go.Dr.zd, 0, 0⟩) := ⟨⟨by show _ ≤ (rn : Int) + 1; omega, by show (rn : Int) + 1 ≤ _; omega⟩, hDl.out, hDu.out, by simp [Go.Dr.zd], by simp [Go.Dr.zd], i64_0, i64_0⟩
 obtain ⟨R0, hR0e⟩ : ∃ R0, Hid ((⟨(rn : Int) + 1, D0, Go.Dr.zd, 0, 0⟩ : Rt) = R0) := ⟨_, rfl⟩
 rw [hR0e.out] at hbl hR0
 have hdig : Hid (∀ W, Below w1.heap.size w1 W → Calls Tryz.prog 170 #[.slice la ln lc] W (DigPost D0 W)) := fun W hb => by
  have hb2 := hb1'.out.trans (hb.mono hb1'.out.size)
  have := digestL_any K la ln lc D.ls W (HT'.out.below hb2) (hgs.out.below hb2)
  rw [hD0.out] at this
  exact this
 have htl : Hid (tb < w1.heap.size) := hB1.out.lt
 have hwr1 : IntKind.i64.wrap ((rn : Int) + 1) = (rn : Int) + 1 := IntWalk.i64_in _ (by omega)
 go_wp2_with fail
 have d0' := Lib.hid d0
 clear d0
 refine share (G := ∀ (q8 : Nat) (WZ : World), (Below w1.heap.size w1 WZ) → (Blk WZ q8 62 (rC R0)) → (w1.heap.size ≤ q8) → (?GfinR8 : Nat → World → Prop) q8 WZ) ?hfinR8 ?kfinR8
 case' hfinR8 =>
  intro KfinR8
 case' hfinR8 =>
  refine share (G := ∀ (q8 : Nat) (WZ : World), (Below w1.heap.size w1 WZ) → (Blk WZ q8 62 (rC Go.Dr.zeroR)) → (w1.heap.size ≤ q8) → (?Gs1_8_R8 : Nat → World → Prop) q8 WZ) ?hs1_8_R8 ?ks1_8_R8
 case' hs1_8_R8 => intro Ks1_8_R8
 case' hs1_8_R8 =>
  refine share (G := ∀ (WZ : World), (Below w1.heap.size w1 WZ) → (?Gs1_R8 : World → Prop) WZ) ?hs1_R8 ?ks1_R8
 case' hs1_R8 => intro Ks1_R8
 case' hs1_R8 =>
  refine share (G := ∀ (q8 : Nat) (WZ : World), (Below w1.heap.size w1 WZ) → (Blk WZ q8 62 (rC Go.Dr.zeroR)) → (w1.heap.size ≤ q8) → (?Gs0_8_R8 : Nat → World → Prop) q8 WZ) ?hs0_8_R8 ?ks0_8_R8
 case' hs0_8_R8 => intro Ks0_8_R8
 case hs0_8_R8 =>
  refine wp_region_held_drew (S := fun wz => Below w1.heap.size w1 wz) (by kernel_rfl) ((Below.refl _ w1).drew) (fun hHeld => ?_)
  generalize w1.drew = WZ at *
  refine tQ 0 rfl hHeld ?_
  refine tX 1 rfl (fun wz hSw => (hSw.cell (p := ⟨tb, 2, none⟩) htl.out).trans d2) hHeld ?_
  refine tQ 2 rfl hHeld ?_
  refine tQ 3 rfl hHeld ?_
  refine tQ 4 rfl hHeld ?_
  refine tX 5 rfl (fun wz hSw => (hSw.cell (p := ⟨tb, 1, none⟩) htl.out).trans d1) hHeld ?_
  refine Go.rd (rs := [6, 8]) ?_
  refine tR rfl (fun K hK => ?_) (tR rfl (fun K hK => ?_) Go.rn)
  case refine_1 =>
   go_simp
   go_at_call 170
   refine (hdig.out WZ hHeld).mono ?_
   rintro e wq ⟨rfl, hst⟩


   refine hK.out _ _ (hHeld.trans (hst.mono hHeld.size)) (fun hHeld2 => ?_)
   clear hK K
   try simp only [Act.put, sA, s0, s1]
   refine tU 7 rfl #[(0, .int .i64 ((rn : Int) + 1)), (1, .agg (bv D0).toArray)] hbl.out hHeld2 ?_
   exact Ks1_R8  wq (hHeld2)
  case refine_2 =>
   go_simp
   refine hK.out _ _ (hHeld.alloc hHeld.size _) (fun hHeld2 => ?_)
   clear hK K
   try simp only [Act.put, sA, s0, s1]
   generalize hW2 : World.alloc WZ _ = W2
   rw [hW2] at hHeld2
   generalize hq : WZ.heap.size = q8
   have hBn : Blk W2 q8 62 (rC Go.Dr.zeroR) := by rw [← hW2, ← hq]; exact Blk.new _ _ _
   have hLn := hHeld.size
   rw [hq] at hLn
   clear hW2 hq
   exact Ks0_8_R8 q8 W2 (hHeld2) (hBn) (hLn)
 case ks0_8_R8 =>
  intro q8 WZ hHeld hB8 hL8
  refine tO 6 rfl (fun K hK => ?_)
  go_simp
  go_at_call 170
  refine (hdig.out WZ hHeld).mono ?_
  rintro e wq ⟨rfl, hst⟩


  refine hK.out _ _ (hHeld.trans (hst.mono hHeld.size)) (fun hHeld2 => ?_)
  clear hK K
  try simp only [Act.put, sA, s0, s1]
  refine tU 7 rfl #[(0, .int .i64 ((rn : Int) + 1)), (1, .agg (bv D0).toArray)] hbl.out hHeld2 ?_
  exact Ks1_8_R8 q8 wq (hHeld2) (hB8.below hst hB8.lt) (hL8)
 case ks1_R8 =>
  intro  WZ hHeld
  refine tO 8 rfl (fun K hK => ?_)
  go_simp
  refine hK.out _ _ (hHeld.alloc hHeld.size _) (fun hHeld2 => ?_)
  clear hK K
  try simp only [Act.put, sA, s0, s1]
  generalize hW2 : World.alloc WZ _ = W2
  rw [hW2] at hHeld2
  generalize hq : WZ.heap.size = q8
  have hBn : Blk W2 q8 62 (rC Go.Dr.zeroR) := by rw [← hW2, ← hq]; exact Blk.new _ _ _
  have hLn := hHeld.size
  rw [hq] at hLn
  clear hW2 hq
  exact Ks1_8_R8 q8 W2 (hHeld2) (hBn) (hLn)
 case ks1_8_R8 =>
  intro q8 WZ hHeld hB8 hL8
  refine Go.rd (rs := [9]) ?_
  refine AllReadyH.cons (o := ⟨none, .store 62 (.tmp 4) (.tmp 29), 0, "directory.go:171", #[⟨8, .data⟩, ⟨7, .data⟩, ⟨6, .chain⟩, ⟨0, .phase⟩, ⟨1, .phase⟩, ⟨2, .phase⟩, ⟨3, .phase⟩, ⟨4, .phase⟩, ⟨5, .phase⟩, ⟨6, .phase⟩, ⟨7, .phase⟩, ⟨8, .phase⟩], none⟩) rfl (fun K hK => ?_) AllReadyH.nil
  obtain ⟨W3, hQ⟩ := put_row (ty := 62) hB8 (x := rC R0) (by rw [rC_length hR0.out, rC_length okZ]) (by rw [rC_length hR0.out]; exact sizeR) (rC_one R0)
  have hHeld2 := below_grown hHeld hQ.grown hHeld.size hL8
  rw [if_pos (by rfl)]
  refine wp_store_mid 62 _ _ rfl q8 0 (rC R0 : List Value).toArray (by rfl) (by rfl) hQ.there hQ.info (by simpa using hQ.one) ?_
  generalize hWq : World.setCells _ _ _ _ = Wa
  obtain rfl : W3 = Wa := by rw [← hWq]; exact hQ.eq
  clear hWq
  refine hK.out _ _ hHeld2 (fun _ => ?_)
  clear hK K
  try simp only [Act.put]
  refine wpAnyH_done (by kernel_rfl) ?_ _
  exact KfinR8 q8 W3 (hHeld2) (hQ.blk) (hL8)
 case kfinR8 =>
  intro g w2 hbz hB8 hL8
  have hB2 := Lib.hid (hB1.out.below hbz hB1.out.lt)
  have hZ2 := Lib.hid (hZ1.out.below hbz hZ1.out.lt)
  have hb2 := Lib.hid (hb1'.out.trans (hbz.mono hb1'.out.size))
  have hgt : tb + 1 < g := by have := hZ1.out.lt; omega
  have htbw := htb.out
  clear hB1 hZ1 hb1' hbz hL8 hdig d1 d2 htl hbl hwr1
  have e2 := hB2.out.at_ (i := 2) (x := .slice ra rn rc) rfl
  obtain ⟨zz, hzz⟩ : ∃ zz, Hid (dirC 0 none 0 0 none 0 0 = zz) := ⟨_, rfl⟩
  have hr0' : Hid ((dirC D.priv la ln lc ra rn rc)[0]? = some (.int .i64 D.priv)) := rfl
  have hr1' : Hid ((dirC D.priv la ln lc ra rn rc)[1]? = some (.slice la ln lc)) := rfl
  have hr2' : Hid ((dirC D.priv la ln lc ra rn rc)[2]? = some (.slice ra rn rc)) := rfl
  have hrs' : Hid (∀ a n c, (dirC D.priv la ln lc ra rn rc).set 2 (.slice a n c) = dirC D.priv la ln lc a n c) := fun a n c => rfl
  obtain ⟨rr, hrr⟩ : ∃ rr, Hid (dirC D.priv la ln lc ra rn rc = rr) := ⟨_, rfl⟩
  have hBt := hB2.out
  have hBz := hZ2.out
  rw [hrr.out] at hBt hr0' hr1' hr2' hrs'
  rw [hzz.out] at hBz
  have hr0 := hr0'; have hr1 := hr1'; have hr2 := hr2'; have hrs := hrs'
  clear hr0' hr1' hr2' hrs'
  by_cases hne : D.rs.length = 0
  · have hrs0 : D.rs = [] := List.eq_nil_of_length_eq_zero hne
    have hg1 : ¬ 0 < rn := by have := hrn.out; omega
    have hg0 : decide (0 < rn) = false := decide_eq_false hg1
    have hpv2 : Hid (Go.Dr.prevOf D.rs = Go.Dr.zd) := by show _ = _; rw [hrs0]; rfl
    have hBg := hB8
    have hok1 := Lib.hid (hR0.out)
    obtain ⟨R1, hR1⟩ : ∃ R1, Hid (R0 = R1) := ⟨_, rfl⟩
    have hbase : Hid (Go.Dr.baseR D = R1) := by
     show _ = _
     rw [← hR1.out, ← hR0e.out]
     unfold Go.Dr.baseR
     rw [hD0.out, hpv2.out, hrn.out]
    rw [hR1.out] at hok1 hBg
    have zR1 : Hid ((Tryz.prog.info? 62).map (·.size) = some (rC R1).length) := by show _ = _; rw [rC_length hok1.out]; exact sizeR
    obtain ⟨sr, ss, hsg, hsr, hss⟩ := signK_at hk (Go.Dr.msgR R1)
    have hml : Hid ((Go.Dr.msgR R1).length = 72) := by show _ = _; unfold Go.Dr.msgR Go.Dr.num8; simp [hok1.out.dig, hok1.out.prev, Sha.be_length]
    have hok2 : Hid (OkQ { R1 with r := sr, s := ss }) := ⟨hok1.out.no, hok1.out.dig, hok1.out.digl, hok1.out.prev, hok1.out.prevl, hsr, hss⟩
    have hsn : Hid (∀ (a2 : Option Addr) (c2 : Nat) (W : World), Tabs W → BS W a2 72 c2 (Go.Dr.msgR R1) → Calls Tryz.prog 69 #[.int .i64 D.priv, .slice a2 72 c2] W (fun e w' => e = .returned (.tuple #[.agg #[.int .i64 sr, .int .i64 ss], .int .i64 0]) ∧ Below W.heap.size W w')) := fun a2 c2 W hT hS => by
     have := Sign_any D.priv hpr.out a2 72 c2 (Go.Dr.msgR R1) W hT hS (by omega)
     rw [hsg] at this
     exact this
    obtain ⟨R2, hR2⟩ : ∃ R2 : Rt, Hid ({ R1 with r := sr, s := ss } = R2) := ⟨_, rfl⟩
    have hok3 := hok2
    rw [hR2.out] at hok3
    have zR2 : Hid ((Tryz.prog.info? 62).map (·.size) = some (rC R2).length) := by show _ = _; rw [rC_length hok3.out]; exact sizeR
    have hnx : Hid (Go.Dr.nextR 4 D = R2) := by
     show _ = _
     unfold Go.Dr.nextR
     rw [hbase.out, hsg, ← hR2.out]
    have hX : Hid (∀ a n c W9, QS (fun b => w.heap.size ≤ b) W9 a n c (D.rs ++ [R2]) → Below w.heap.size w W9 → X (.returned (.tuple #[.agg (dirC D.priv la ln lc a n c).toArray, .int .i64 0])) W9) := fun a n c W9 h1 h2 => hX0.out a n c W9 (by rw [hnx.out]; exact h1) h2
    clear hX0 hsg hsr hss

    go_wp2_with fail
    have hM : TgW w tb rr zz g w2 := ⟨hBt, hBz, ⟨R1, hok1.out, hBg⟩, hb2.out⟩
    clear hBt hBz hB2 hZ2 hB8 e2 hne hg0 hg1 hrs0
    refine wp_region_held_drew (S := fun wz => TgW w tb rr zz g wz) (by kernel_rfl) (hM.drew) (fun hHeld => ?_)
    have hBd : Blk w2.drew g 62 (rC R1) := hBg
    clear hBg
    generalize w2.drew = V0 at *
    refine tQ 0 rfl hHeld ?_
    refine tX 1 rfl (fun wz hSw => hSw.1.at_ hr0.out) hHeld ?_
    refine tO 2 rfl (fun K hK => ?_)
    refine wp_load_mid 62 _ (by rfl) g 0 (by rfl) (rC R1) _ hBd.range Tryz.underlying62 rfl zR1.out ?_
    refine hK.out _ _ hHeld (fun _ => ?_)
    clear hK K
    try simp only [Act.put, sA, s0, s1]
    refine tO 3 rfl (fun K hK => ?_)
    go_simp
    go_at_call 171
    refine (message_any R1 hok1.out V0).mono ?_
    rintro e V1 ⟨b, rfl, hbW, I1, hst⟩
    have hBg1 := hBd.below hst hBd.lt
    refine hK.out _ _ (hHeld.next hst) (fun hHeld2 => ?_)
    clear hHeld hst hBd
    have hHeld := hHeld2
    clear hHeld2
    clear hK K
    try simp only [Act.put, sA, s0, s1]
    refine tQ 4 rfl hHeld ?_
    refine tQ 5 rfl hHeld ?_
    refine tO 6 rfl (fun K hK => ?_)
    go_simp
    go_at_call 172
    refine (bytesOf_any _ b _ V1 I1).mono ?_
    rintro e V2 ⟨a2, c2, rfl, hS2, m, rfl⟩
    have hS3 := Lib.hid hS2
    have hBg2 := hBg1.drewN m
    refine hK.out _ _ (hHeld.next (below_drewN _ m _)) (fun hHeld2 => ?_)
    clear hHeld hS2 hBg1
    have hHeld := hHeld2
    clear hHeld2
    generalize V1.drewN m = V3 at *
    rw [hml.out] at hS3
    rw [hml.out]
    clear hK K
    try simp only [Act.put, sA, s0, s1]
    refine tO 7 rfl (fun K hK => ?_)
    go_simp
    go_at_call 69
    refine (hsn.out a2 c2 V3 (HT'.out.below hHeld.2.2.2) hS3.out).mono ?_
    rintro e V4 ⟨rfl, hst2⟩
    have hBg4 := hBg2.below hst2 hBg2.lt
    refine hK.out _ _ (hHeld.next hst2) (fun hHeld2 => ?_)
    clear hHeld hst2 hBg2 hS3
    have hHeld := hHeld2
    clear hHeld2
    clear hK K
    try simp only [Act.put, sA, s0, s1]
    refine tQ 8 rfl hHeld ?_
    refine tQ 9 rfl hHeld ?_
    refine tQ 10 rfl hHeld ?_
    refine tQ 11 rfl hHeld ?_
    obtain ⟨V9, hP⟩ := put_sig hok1.out hBg4 sr ss
    have hNew : TgW w tb rr zz g V9 := ⟨hHeld.1.grown hP.grown (by intro e; injection e; omega), hHeld.2.1.grown hP.grown (by intro e; injection e; omega), ⟨_, hok2.out, hP.blk⟩, hHeld.2.2.2.grown hP.grown hHeld.2.2.2.size (fun k e => by cases e; omega)⟩
    refine tO 12 rfl (fun K hK => ?_)
    refine wp_store_mid 45 _ _ rfl g 65 #[.int .i64 sr, .int .i64 ss] (by rfl) (by rfl) hP.there sizeSg2 (by simpa using hP.one) ?_
    generalize hWq : World.setCells _ _ _ _ = Wa
    obtain rfl : V9 = Wa := by rw [← hWq]; exact hP.eq
    clear hWq
    refine hK.out _ _ hNew (fun hHeld2 => ?_)
    clear hHeld hBg4
    have hHeld := hHeld2
    clear hHeld2
    clear hK K
    try simp only [Act.put]
    refine tQ 13 rfl hHeld ?_
    refine wpAnyH_done (by kernel_rfl) ?_ _
    have hBg : Blk V9 g 62 (rC R2) := by rw [← hR2.out]; exact hP.blk
    have hBt := hHeld.1
    have hBz := hHeld.2.1
    have hbv := hHeld.2.2.2
    clear hHeld hNew hP
    have e0 := hBt.at_ hr0.out
    have e1 := hBt.at_ hr1.out
    have e2 := hBt.at_ hr2.out
    go_wp2_with fail
    have hM2 : ThW w tb D.priv la ln lc zz g (rC R2) V9 := ⟨⟨ra, rn, rc, by rw [hrr.out]; exact hBt⟩, hBz, hBg, hbv⟩
    refine wp_region_held_drew (S := fun wz => ThW w tb D.priv la ln lc zz g (rC R2) wz) (by kernel_rfl) (hM2.drew) (fun hHeld => ?_)
    have hBt0 : Blk V9.drew tb 113 rr := hBt
    have hM3 := hM2.drew
    clear hBt hBg hBz hbv e0 e1 e2 hM2
    generalize V9.drew = V0 at *
    refine tQ 0 rfl hHeld ?_
    refine tY 3 rfl g 0 (rC R2) (fun wz h => h.2.2.1.range) Tryz.underlying62 zR2.out hHeld ?_
    refine share (G := ThW w tb D.priv la ln lc zz g (rC R2) (V0.alloc (.cells (rC R2).toArray 62)) → ?G14A) ?h14A ?k14A
    case h14A =>
     intro K14
     refine Go.rd (rs := [1, 4]) ?_
     refine tR rfl (fun K hK => ?_) (tR rfl (fun K hK => ?_) Go.rn)
     case refine_1 =>
      have q0 := hBt0.at_ hr2.out
      show Oper.wp _ _ _ _ K _
      go_simp
      refine hK.out _ _ hHeld (fun hHeld2 => ?_)
      clear hK K q0
      have hHeld := hHeld2
      try simp only [Act.put, sA, s0, s1]
      refine Go.rd (rs := [2, 4]) ?_
      refine tR rfl (fun K hK => ?_) (tR rfl (fun K hK => ?_) Go.rn)
      case refine_1 =>
       go_simp
       go_at_call 173
       refine (clipR_any ra rn rc hle.out hmx.out hnil.out _).mono ?_
       rintro e wq ⟨rfl, hwq⟩
       rw [hwq]
       refine hK.out _ _ hHeld (fun hHeld2 => ?_)
       clear hwq wq hK K
       try simp only [Act.put, sA, s0, s1]
       refine tO 4 rfl (fun K hK => ?_)
       refine wp_buildSlice_run _ _ _ rfl #[(0, .agg (rC R2).toArray)] (by simp only [List.map_toArray, List.map_cons, List.map_nil]; rfl) (root_slice1 hok3.out _) ?_
       refine hK.out _ _ (hHeld.next ((Below.refl _ _).alloc (Nat.le_refl _) _)) (fun hHeld2 => ?_)
       clear hK K
       have hHeld := hHeld2
       try simp only [Act.put, sA, s0, s1]
       exact K14 hHeld
      case refine_2 =>
       refine wp_buildSlice_run _ _ _ rfl #[(0, .agg (rC R2).toArray)] (by simp only [List.map_toArray, List.map_cons, List.map_nil]; rfl) (root_slice1 hok3.out _) ?_
       refine hK.out _ _ (hHeld.next ((Below.refl _ _).alloc (Nat.le_refl _) _)) (fun hHeld2 => ?_)
       clear hK K
       have hHeld := hHeld2
       try simp only [Act.put, sA, s0, s1]
       refine tO 2 rfl (fun K hK => ?_)
       go_simp
       go_at_call 173
       refine (clipR_any ra rn rc hle.out hmx.out hnil.out _).mono ?_
       rintro e wq ⟨rfl, hwq⟩
       rw [hwq]
       refine hK.out _ _ hHeld (fun hHeld2 => ?_)
       clear hwq wq hK K
       try simp only [Act.put, sA, s0, s1]
       exact K14 hHeld
     case refine_2 =>
      refine wp_buildSlice_run _ _ _ rfl #[(0, .agg (rC R2).toArray)] (by simp only [List.map_toArray, List.map_cons, List.map_nil]; rfl) (root_slice1 hok3.out _) ?_
      refine hK.out _ _ (hHeld.next ((Below.refl _ _).alloc (Nat.le_refl _) _)) (fun hHeld2 => ?_)
      clear hK K
      have hHeld := hHeld2
      try simp only [Act.put, sA, s0, s1]
      refine tO 1 rfl (fun K hK => ?_)
      have q0 := (hBt0.alloc (.cells (rC R2).toArray 62)).at_ hr2.out
      show Oper.wp _ _ _ _ K _
      go_simp
      refine hK.out _ _ hHeld (fun hHeld2 => ?_)
      clear hK K q0
      have hHeld := hHeld2
      try simp only [Act.put, sA, s0, s1]
      refine tO 2 rfl (fun K hK => ?_)
      go_simp
      go_at_call 173
      refine (clipR_any ra rn rc hle.out hmx.out hnil.out _).mono ?_
      rintro e wq ⟨rfl, hwq⟩
      rw [hwq]
      refine hK.out _ _ hHeld (fun hHeld2 => ?_)
      clear hwq wq hK K
      try simp only [Act.put, sA, s0, s1]
      exact K14 hHeld
    case k14A =>
     intro hHeld
     have hBt1 := hBt0.alloc (.cells (rC R2).toArray 62)
     have hgl := hM3.2.2.1.lt
     have hzl := hM3.2.1.lt
     refine Go.rd (rs := [5]) ?_
     refine AllReadyH.cons (o := ⟨some 65, .call { callee := .builtin .append, args := #[.tmp 62, .tmp 64], argTypes := #[67, 67] }, 67, "directory.go:178", #[⟨2, .data⟩, ⟨4, .data⟩, ⟨2, .chain⟩], none⟩) rfl (fun K hK => ?_) AllReadyH.nil
     have hqh := reads_holds hRd.out hHeld.2.2.2
     have hql := hRd.out.len
     have hqn := new_cells V0 62 (rC R2)
     have hq6 := rC_length hok3.out
     refine step_append_grows rfl (.tmp 62) (.tmp 64) 67 rfl 62 i0 _ 67 88 Tryz.underlying67 hi hz0 hz1 hz2 rfl (by decide) ra rn rn rows.flatten rfl (fun e => ⟨(hnil.out e).1, (hnil.out e).1⟩) hql hqh ⟨V0.heap.size, 0, none⟩ 1 1 (rC R2) rfl hq6 hqn (rC_one R2) (by omega) (by unfold maxLen; omega) (by omega) ?_
     intro v' w' hown hgrow
     have hbg := (Below.refl _ (V0.alloc (.cells (rC R2).toArray 62))).grown hgrow (Nat.le_refl _) (fun r e => by cases e)
     have hBt2 := hBt1.below hbg hBt1.lt
     refine hK.out _ _ (hHeld.next hbg) (fun hHeld2 => ?_)
     clear hHeld hK K
     have hHeld := hHeld2
     clear hHeld2
     try simp only [Act.put, sA, s0, s1]
     obtain ⟨a2, c2, hv2, hQ⟩ := qs_snoc (K := fun b => V0.heap.size ≤ b) hRo.out hok3.out hrn.out hown (fun b h => by simp at h; omega)
     subst hv2
     clear hown hgrow hbg hBt1
     refine tQ 6 rfl hHeld ?_
     refine tO 7 rfl (fun K hK => ?_)
     have q2 := hBt2.at_ hr2.out
     have f2 := hBt2.frozen 2
     show Oper.wp _ _ _ _ K _
     go_simp
     have hset := hBt2.set 2 (.slice a2 (rn + 1) c2)
     rw [hrs.out] at hset
     have hgs2 : w'.grownBy (w'.setCell ⟨tb, 2, none⟩ (.slice a2 (rn + 1) c2)) (some tb) := grown_set (World.grownBy.refl w' _) (.inl rfl) _
     have hNew : ThW w tb D.priv la ln lc zz g (rC R2) (w'.setCell ⟨tb, 2, none⟩ (.slice a2 (rn + 1) c2)) := ⟨⟨a2, rn + 1, c2, hset⟩, hHeld.2.1.grown hgs2 (by intro e; injection e; omega), hHeld.2.2.1.grown hgs2 (by intro e; injection e; omega), hHeld.2.2.2.grown hgs2 hHeld.2.2.2.size (fun k e => by cases e; omega)⟩
     have hQ2 : QS (fun b => V0.heap.size ≤ b) (w'.setCell ⟨tb, 2, none⟩ (.slice a2 (rn + 1) c2)) a2 (rn + 1) c2 (D.rs ++ [R2]) := hQ.keep (Keeps.grown hgs2 (fun b hb e => by have := hBt0.lt; omega))
     refine hK.out _ _ hNew (fun _ => ?_)
     clear hHeld hK K hBt2 hQ q2 f2 hgs2
     try simp only [Act.put, sA, s0, s1]
     refine wpAnyH_done (by kernel_rfl) ?_ _
     generalize w'.setCell ⟨tb, 2, none⟩ (.slice a2 (rn + 1) c2) = V5 at *
     have hQ3 : QS (fun b => w.heap.size ≤ b) V5 a2 (rn + 1) c2 (D.rs ++ [R2]) := hQ2.imp (fun b _ hb => by have := hM3.2.2.2.size; omega)
     have hone : ∀ u ∈ dirC D.priv la ln lc a2 (rn + 1) c2, u.oneCell' = true := by intro u hu; simp only [dirC, List.mem_cons, List.not_mem_nil, or_false] at hu; rcases hu with rfl | rfl | rfl <;> rfl
     obtain ⟨W9, hP⟩ := put_row (ty := 113) hNew.2.1 (x := dirC D.priv la ln lc a2 (rn + 1) c2) (by rw [← hzz.out]; rfl) sizeDr hone
     have hfin := Lib.hid (hX.out a2 (rn + 1) c2 W9 (QS.keep (QS.imp hQ2 (fun b _ hb => hb)) (Keeps.grown hP.grown (fun b hb e => by omega)) |>.imp (fun b _ hb => by have := hM3.2.2.2.size; omega)) (below_grown hNew.2.2.2 hP.grown hNew.2.2.2.size (by omega)))
     have hsr := Lib.hid hset.range
     have hP' := Lib.hid hP
     have hbk := Lib.hid hP.blk
     have hzi : Hid ((Tryz.prog.info? 113).map (·.size) = some (dirC D.priv la ln lc a2 (rn + 1) c2).length) := sizeDr
     obtain ⟨r2, hr2e⟩ : ∃ r2, Hid (dirC D.priv la ln lc a2 (rn + 1) c2 = r2) := ⟨_, rfl⟩
     rw [hr2e.out] at hsr hP' hbk hzi hfin
     clear hQ2 hQ3 hNew hset hP hone hX
     go_wp2_with (first
      | (refine wpList_load_mid (by rfl) 113 (.tmp 1) (by rfl) tb 0 (by rfl) r2 _ hsr.out Tryz.underlying113 (by rfl) hzi.out ?_)
       | (refine wpList_store_mid (by rfl) 113 (.tmp 2) (.tmp 67) (by rfl) (tb + 1) 0 r2.toArray (by rfl) (by rfl) hP'.out.there hP'.out.info (by simpa using hP'.out.one) ?_
          generalize hWq : World.setCells _ _ _ _ = Wa
          obtain rfl : W9 = Wa := by rw [← hWq]; exact hP'.out.eq
          clear hWq))
     refine ret_cell_tmp (p := 2) (u := 3) rfl hbk.out Tryz.underlying113 rfl hzi.out rfl rfl rfl ?_
     exact hfin.out
  · obtain ⟨k, hk1⟩ : ∃ k, Hid (rn = k + 1) := ⟨rn - 1, by have := hrn.out; show _ = _; omega⟩
    have hg1 : 0 < rn := by have := hk1.out; omega
    have hg0 : decide (0 < rn) = true := decide_eq_true hg1
    have hkl : k < D.rs.length := by have := hrn.out; have := hk1.out; omega
    obtain ⟨x, hx⟩ : ∃ x, D.rs[k]? = some x := ⟨_, List.getElem?_eq_getElem hkl⟩
    obtain ⟨b, off, hra, hbl2, _, hox, hrg0⟩ := (hqs.out.below hb2.out).cells hx
    have hpv2 : Hid (Go.Dr.prevOf D.rs = Go.Dr.idR x) := by
     show _ = _
     unfold Go.Dr.prevOf
     rw [List.getLast?_eq_getElem?, show D.rs.length - 1 = k by have := hrn.out; have := hk1.out; omega, hx]
    have hrg := Lib.hid hrg0
    have hxi : Hid ((Tryz.prog.info? 62).map (·.size) = some (rC x).length) := by show _ = _; rw [rC_length hox]; exact sizeR
    have hid := Lib.hid (id_any x hox w2 (HT'.out.below hb2.out))
    obtain ⟨P0, hP0⟩ : ∃ P0, Hid (Go.Dr.idR x = P0) := ⟨_, rfl⟩
    have hPl : Hid (P0.length = 32 ∧ ∀ u ∈ P0, u < 256) := by rw [← hP0.out]; exact ⟨Sha.tagged_length _ _, Sha.tagged_lt _ _⟩
    rw [hP0.out] at hid hpv2
    have hsub : (rn : Int) - 1 = (k : Int) := by have := hk1.out; omega
    have k0 : (0 : Int) ≤ (k : Int) := by omega
    have k1 : (k : Int) < (rn : Int) := by omega
    rw [hra] at e2
    clear hra
    obtain ⟨rx, hrx⟩ : ∃ rx, Hid (rC x = rx) := ⟨_, rfl⟩
    rw [hrx.out] at hrg hxi hid
    clear hx hrg0 hkl hne hbl2 hox
    go_wp2_with (first
     | (refine wpList_load_mid (by rfl) 62 (.tmp 40) (by rfl) b (off + k * 67) (by rfl) rx _ hrg.out Tryz.underlying62 (by rfl) hxi.out ?_))
    refine hid.out.mono ?_
    rintro e w3 ⟨rfl, hb3⟩
    have hB3 := hB8.below hb3 hB8.lt
    obtain ⟨W4, hP4⟩ := put_prev hR0.out hB3 hPl.out.1
    have hBt4 := (hBt.below hb3 hBt.lt).grown hP4.grown (by intro e; injection e; omega)
    have hBz4 := (hBz.below hb3 hBz.lt).grown hP4.grown (by intro e; injection e; omega)
    have hb4 : Hid (Below w.heap.size w W4) := (hb2.out.trans (hb3.mono hb2.out.size)).grown hP4.grown (Nat.le_trans hb2.out.size hb3.size) (fun r e => by cases e; omega)
    have hBg := hP4.blk
    have hP4' := Lib.hid hP4
    have hPi : Hid ((Tryz.prog.info? 43).map (·.size) = some (bv P0).toArray.size) := by show _ = _; rw [List.size_toArray, bv_length, hPl.out.1]; exact size35
    have e4 := hBt4.at_ hr2.out
    have hok1 := Lib.hid ((⟨hR0.out.no, hR0.out.dig, hR0.out.digl, hPl.out.1, hPl.out.2, hR0.out.r, hR0.out.s⟩ : OkQ { R0 with prev := P0 }))
    obtain ⟨R1, hR1⟩ : ∃ R1, Hid (({ R0 with prev := P0 } : Rt) = R1) := ⟨_, rfl⟩
    have hbase : Hid (Go.Dr.baseR D = R1) := by
     show _ = _
     rw [← hR1.out, ← hR0e.out]
     unfold Go.Dr.baseR
     rw [hD0.out, hpv2.out, hrn.out]
    rw [hR1.out] at hok1 hBg
    have zR1 : Hid ((Tryz.prog.info? 62).map (·.size) = some (rC R1).length) := by show _ = _; rw [rC_length hok1.out]; exact sizeR
    obtain ⟨sr, ss, hsg, hsr, hss⟩ := signK_at hk (Go.Dr.msgR R1)
    have hml : Hid ((Go.Dr.msgR R1).length = 72) := by show _ = _; unfold Go.Dr.msgR Go.Dr.num8; simp [hok1.out.dig, hok1.out.prev, Sha.be_length]
    have hok2 : Hid (OkQ { R1 with r := sr, s := ss }) := ⟨hok1.out.no, hok1.out.dig, hok1.out.digl, hok1.out.prev, hok1.out.prevl, hsr, hss⟩
    have hsn : Hid (∀ (a2 : Option Addr) (c2 : Nat) (W : World), Tabs W → BS W a2 72 c2 (Go.Dr.msgR R1) → Calls Tryz.prog 69 #[.int .i64 D.priv, .slice a2 72 c2] W (fun e w' => e = .returned (.tuple #[.agg #[.int .i64 sr, .int .i64 ss], .int .i64 0]) ∧ Below W.heap.size W w')) := fun a2 c2 W hT hS => by
     have := Sign_any D.priv hpr.out a2 72 c2 (Go.Dr.msgR R1) W hT hS (by omega)
     rw [hsg] at this
     exact this
    obtain ⟨R2, hR2⟩ : ∃ R2 : Rt, Hid ({ R1 with r := sr, s := ss } = R2) := ⟨_, rfl⟩
    have hok3 := hok2
    rw [hR2.out] at hok3
    have zR2 : Hid ((Tryz.prog.info? 62).map (·.size) = some (rC R2).length) := by show _ = _; rw [rC_length hok3.out]; exact sizeR
    have hnx : Hid (Go.Dr.nextR 4 D = R2) := by
     show _ = _
     unfold Go.Dr.nextR
     rw [hbase.out, hsg, ← hR2.out]
    have hX : Hid (∀ a n c W9, QS (fun b => w.heap.size ≤ b) W9 a n c (D.rs ++ [R2]) → Below w.heap.size w W9 → X (.returned (.tuple #[.agg (dirC D.priv la ln lc a n c).toArray, .int .i64 0])) W9) := fun a n c W9 h1 h2 => hX0.out a n c W9 (by rw [hnx.out]; exact h1) h2
    clear hX0 hsg hsr hss

    clear hid hBt hBz hB2 hZ2 hB8 e2 hg0 hg1 hP4 hb3 hB3 hrg
    go_wp2_with (first
     | (refine wpList_store_mid (by rfl) 43 (.tmp 43) (.tmp 42) (by rfl) g 33 (bv P0).toArray (by rfl) (by rfl) hP4'.out.there hPi.out (by simpa using hP4'.out.one) ?_
        generalize hWq : World.setCells _ _ _ _ = Wa
        obtain rfl : W4 = Wa := by rw [← hWq]; exact hP4'.out.eq
        clear hWq))
    have hM : TgW w tb rr zz g W4 := ⟨hBt4, hBz4, ⟨R1, hok1.out, hBg⟩, hb4.out⟩
    clear hBt4 hBz4 e4 hP4'
    refine wp_region_held_drew (S := fun wz => TgW w tb rr zz g wz) (by kernel_rfl) (hM.drew) (fun hHeld => ?_)
    have hBd : Blk W4.drew g 62 (rC R1) := hBg
    clear hBg
    generalize W4.drew = V0 at *
    refine tQ 0 rfl hHeld ?_
    refine tX 1 rfl (fun wz hSw => hSw.1.at_ hr0.out) hHeld ?_
    refine tO 2 rfl (fun K hK => ?_)
    refine wp_load_mid 62 _ (by rfl) g 0 (by rfl) (rC R1) _ hBd.range Tryz.underlying62 rfl zR1.out ?_
    refine hK.out _ _ hHeld (fun _ => ?_)
    clear hK K
    try simp only [Act.put, sA, s0, s1]
    refine tO 3 rfl (fun K hK => ?_)
    go_simp
    go_at_call 171
    refine (message_any R1 hok1.out V0).mono ?_
    rintro e V1 ⟨b, rfl, hbW, I1, hst⟩
    have hBg1 := hBd.below hst hBd.lt
    refine hK.out _ _ (hHeld.next hst) (fun hHeld2 => ?_)
    clear hHeld hst hBd
    have hHeld := hHeld2
    clear hHeld2
    clear hK K
    try simp only [Act.put, sA, s0, s1]
    refine tQ 4 rfl hHeld ?_
    refine tQ 5 rfl hHeld ?_
    refine tO 6 rfl (fun K hK => ?_)
    go_simp
    go_at_call 172
    refine (bytesOf_any _ b _ V1 I1).mono ?_
    rintro e V2 ⟨a2, c2, rfl, hS2, m, rfl⟩
    have hS3 := Lib.hid hS2
    have hBg2 := hBg1.drewN m
    refine hK.out _ _ (hHeld.next (below_drewN _ m _)) (fun hHeld2 => ?_)
    clear hHeld hS2 hBg1
    have hHeld := hHeld2
    clear hHeld2
    generalize V1.drewN m = V3 at *
    rw [hml.out] at hS3
    rw [hml.out]
    clear hK K
    try simp only [Act.put, sA, s0, s1]
    refine tO 7 rfl (fun K hK => ?_)
    go_simp
    go_at_call 69
    refine (hsn.out a2 c2 V3 (HT'.out.below hHeld.2.2.2) hS3.out).mono ?_
    rintro e V4 ⟨rfl, hst2⟩
    have hBg4 := hBg2.below hst2 hBg2.lt
    refine hK.out _ _ (hHeld.next hst2) (fun hHeld2 => ?_)
    clear hHeld hst2 hBg2 hS3
    have hHeld := hHeld2
    clear hHeld2
    clear hK K
    try simp only [Act.put, sA, s0, s1]
    refine tQ 8 rfl hHeld ?_
    refine tQ 9 rfl hHeld ?_
    refine tQ 10 rfl hHeld ?_
    refine tQ 11 rfl hHeld ?_
    obtain ⟨V9, hP⟩ := put_sig hok1.out hBg4 sr ss
    have hNew : TgW w tb rr zz g V9 := ⟨hHeld.1.grown hP.grown (by intro e; injection e; omega), hHeld.2.1.grown hP.grown (by intro e; injection e; omega), ⟨_, hok2.out, hP.blk⟩, hHeld.2.2.2.grown hP.grown hHeld.2.2.2.size (fun k e => by cases e; omega)⟩
    refine tO 12 rfl (fun K hK => ?_)
    refine wp_store_mid 45 _ _ rfl g 65 #[.int .i64 sr, .int .i64 ss] (by rfl) (by rfl) hP.there sizeSg2 (by simpa using hP.one) ?_
    generalize hWq : World.setCells _ _ _ _ = Wa
    obtain rfl : V9 = Wa := by rw [← hWq]; exact hP.eq
    clear hWq
    refine hK.out _ _ hNew (fun hHeld2 => ?_)
    clear hHeld hBg4
    have hHeld := hHeld2
    clear hHeld2
    clear hK K
    try simp only [Act.put]
    refine tQ 13 rfl hHeld ?_
    refine wpAnyH_done (by kernel_rfl) ?_ _
    have hBg : Blk V9 g 62 (rC R2) := by rw [← hR2.out]; exact hP.blk
    have hBt := hHeld.1
    have hBz := hHeld.2.1
    have hbv := hHeld.2.2.2
    clear hHeld hNew hP
    have e0 := hBt.at_ hr0.out
    have e1 := hBt.at_ hr1.out
    have e2 := hBt.at_ hr2.out
    go_wp2_with fail
    have hM2 : ThW w tb D.priv la ln lc zz g (rC R2) V9 := ⟨⟨ra, rn, rc, by rw [hrr.out]; exact hBt⟩, hBz, hBg, hbv⟩
    refine wp_region_held_drew (S := fun wz => ThW w tb D.priv la ln lc zz g (rC R2) wz) (by kernel_rfl) (hM2.drew) (fun hHeld => ?_)
    have hBt0 : Blk V9.drew tb 113 rr := hBt
    have hM3 := hM2.drew
    clear hBt hBg hBz hbv e0 e1 e2 hM2
    generalize V9.drew = V0 at *
    refine tQ 0 rfl hHeld ?_
    refine tY 3 rfl g 0 (rC R2) (fun wz h => h.2.2.1.range) Tryz.underlying62 zR2.out hHeld ?_
    refine share (G := ThW w tb D.priv la ln lc zz g (rC R2) (V0.alloc (.cells (rC R2).toArray 62)) → ?G14B) ?h14B ?k14B
    case h14B =>
     intro K14
     refine Go.rd (rs := [1, 4]) ?_
     refine tR rfl (fun K hK => ?_) (tR rfl (fun K hK => ?_) Go.rn)
     case refine_1 =>
      have q0 := hBt0.at_ hr2.out
      show Oper.wp _ _ _ _ K _
      go_simp
      refine hK.out _ _ hHeld (fun hHeld2 => ?_)
      clear hK K q0
      have hHeld := hHeld2
      try simp only [Act.put, sA, s0, s1]
      refine Go.rd (rs := [2, 4]) ?_
      refine tR rfl (fun K hK => ?_) (tR rfl (fun K hK => ?_) Go.rn)
      case refine_1 =>
       go_simp
       go_at_call 173
       refine (clipR_any ra rn rc hle.out hmx.out hnil.out _).mono ?_
       rintro e wq ⟨rfl, hwq⟩
       rw [hwq]
       refine hK.out _ _ hHeld (fun hHeld2 => ?_)
       clear hwq wq hK K
       try simp only [Act.put, sA, s0, s1]
       refine tO 4 rfl (fun K hK => ?_)
       refine wp_buildSlice_run _ _ _ rfl #[(0, .agg (rC R2).toArray)] (by simp only [List.map_toArray, List.map_cons, List.map_nil]; rfl) (root_slice1 hok3.out _) ?_
       refine hK.out _ _ (hHeld.next ((Below.refl _ _).alloc (Nat.le_refl _) _)) (fun hHeld2 => ?_)
       clear hK K
       have hHeld := hHeld2
       try simp only [Act.put, sA, s0, s1]
       exact K14 hHeld
      case refine_2 =>
       refine wp_buildSlice_run _ _ _ rfl #[(0, .agg (rC R2).toArray)] (by simp only [List.map_toArray, List.map_cons, List.map_nil]; rfl) (root_slice1 hok3.out _) ?_
       refine hK.out _ _ (hHeld.next ((Below.refl _ _).alloc (Nat.le_refl _) _)) (fun hHeld2 => ?_)
       clear hK K
       have hHeld := hHeld2
       try simp only [Act.put, sA, s0, s1]
       refine tO 2 rfl (fun K hK => ?_)
       go_simp
       go_at_call 173
       refine (clipR_any ra rn rc hle.out hmx.out hnil.out _).mono ?_
       rintro e wq ⟨rfl, hwq⟩
       rw [hwq]
       refine hK.out _ _ hHeld (fun hHeld2 => ?_)
       clear hwq wq hK K
       try simp only [Act.put, sA, s0, s1]
       exact K14 hHeld
     case refine_2 =>
      refine wp_buildSlice_run _ _ _ rfl #[(0, .agg (rC R2).toArray)] (by simp only [List.map_toArray, List.map_cons, List.map_nil]; rfl) (root_slice1 hok3.out _) ?_
      refine hK.out _ _ (hHeld.next ((Below.refl _ _).alloc (Nat.le_refl _) _)) (fun hHeld2 => ?_)
      clear hK K
      have hHeld := hHeld2
      try simp only [Act.put, sA, s0, s1]
      refine tO 1 rfl (fun K hK => ?_)
      have q0 := (hBt0.alloc (.cells (rC R2).toArray 62)).at_ hr2.out
      show Oper.wp _ _ _ _ K _
      go_simp
      refine hK.out _ _ hHeld (fun hHeld2 => ?_)
      clear hK K q0
      have hHeld := hHeld2
      try simp only [Act.put, sA, s0, s1]
      refine tO 2 rfl (fun K hK => ?_)
      go_simp
      go_at_call 173
      refine (clipR_any ra rn rc hle.out hmx.out hnil.out _).mono ?_
      rintro e wq ⟨rfl, hwq⟩
      rw [hwq]
      refine hK.out _ _ hHeld (fun hHeld2 => ?_)
      clear hwq wq hK K
      try simp only [Act.put, sA, s0, s1]
      exact K14 hHeld
    case k14B =>
     intro hHeld
     have hBt1 := hBt0.alloc (.cells (rC R2).toArray 62)
     have hgl := hM3.2.2.1.lt
     have hzl := hM3.2.1.lt
     refine Go.rd (rs := [5]) ?_
     refine AllReadyH.cons (o := ⟨some 65, .call { callee := .builtin .append, args := #[.tmp 62, .tmp 64], argTypes := #[67, 67] }, 67, "directory.go:178", #[⟨2, .data⟩, ⟨4, .data⟩, ⟨2, .chain⟩], none⟩) rfl (fun K hK => ?_) AllReadyH.nil
     have hqh := reads_holds hRd.out hHeld.2.2.2
     have hql := hRd.out.len
     have hqn := new_cells V0 62 (rC R2)
     have hq6 := rC_length hok3.out
     refine step_append_grows rfl (.tmp 62) (.tmp 64) 67 rfl 62 i0 _ 67 88 Tryz.underlying67 hi hz0 hz1 hz2 rfl (by decide) ra rn rn rows.flatten rfl (fun e => ⟨(hnil.out e).1, (hnil.out e).1⟩) hql hqh ⟨V0.heap.size, 0, none⟩ 1 1 (rC R2) rfl hq6 hqn (rC_one R2) (by omega) (by unfold maxLen; omega) (by omega) ?_
     intro v' w' hown hgrow
     have hbg := (Below.refl _ (V0.alloc (.cells (rC R2).toArray 62))).grown hgrow (Nat.le_refl _) (fun r e => by cases e)
     have hBt2 := hBt1.below hbg hBt1.lt
     refine hK.out _ _ (hHeld.next hbg) (fun hHeld2 => ?_)
     clear hHeld hK K
     have hHeld := hHeld2
     clear hHeld2
     try simp only [Act.put, sA, s0, s1]
     obtain ⟨a2, c2, hv2, hQ⟩ := qs_snoc (K := fun b => V0.heap.size ≤ b) hRo.out hok3.out hrn.out hown (fun b h => by simp at h; omega)
     subst hv2
     clear hown hgrow hbg hBt1
     refine tQ 6 rfl hHeld ?_
     refine tO 7 rfl (fun K hK => ?_)
     have q2 := hBt2.at_ hr2.out
     have f2 := hBt2.frozen 2
     show Oper.wp _ _ _ _ K _
     go_simp
     have hset := hBt2.set 2 (.slice a2 (rn + 1) c2)
     rw [hrs.out] at hset
     have hgs2 : w'.grownBy (w'.setCell ⟨tb, 2, none⟩ (.slice a2 (rn + 1) c2)) (some tb) := grown_set (World.grownBy.refl w' _) (.inl rfl) _
     have hNew : ThW w tb D.priv la ln lc zz g (rC R2) (w'.setCell ⟨tb, 2, none⟩ (.slice a2 (rn + 1) c2)) := ⟨⟨a2, rn + 1, c2, hset⟩, hHeld.2.1.grown hgs2 (by intro e; injection e; omega), hHeld.2.2.1.grown hgs2 (by intro e; injection e; omega), hHeld.2.2.2.grown hgs2 hHeld.2.2.2.size (fun k e => by cases e; omega)⟩
     have hQ2 : QS (fun b => V0.heap.size ≤ b) (w'.setCell ⟨tb, 2, none⟩ (.slice a2 (rn + 1) c2)) a2 (rn + 1) c2 (D.rs ++ [R2]) := hQ.keep (Keeps.grown hgs2 (fun b hb e => by have := hBt0.lt; omega))
     refine hK.out _ _ hNew (fun _ => ?_)
     clear hHeld hK K hBt2 hQ q2 f2 hgs2
     try simp only [Act.put, sA, s0, s1]
     refine wpAnyH_done (by kernel_rfl) ?_ _
     generalize w'.setCell ⟨tb, 2, none⟩ (.slice a2 (rn + 1) c2) = V5 at *
     have hQ3 : QS (fun b => w.heap.size ≤ b) V5 a2 (rn + 1) c2 (D.rs ++ [R2]) := hQ2.imp (fun b _ hb => by have := hM3.2.2.2.size; omega)
     have hone : ∀ u ∈ dirC D.priv la ln lc a2 (rn + 1) c2, u.oneCell' = true := by intro u hu; simp only [dirC, List.mem_cons, List.not_mem_nil, or_false] at hu; rcases hu with rfl | rfl | rfl <;> rfl
     obtain ⟨W9, hP⟩ := put_row (ty := 113) hNew.2.1 (x := dirC D.priv la ln lc a2 (rn + 1) c2) (by rw [← hzz.out]; rfl) sizeDr hone
     have hfin := Lib.hid (hX.out a2 (rn + 1) c2 W9 (QS.keep (QS.imp hQ2 (fun b _ hb => hb)) (Keeps.grown hP.grown (fun b hb e => by omega)) |>.imp (fun b _ hb => by have := hM3.2.2.2.size; omega)) (below_grown hNew.2.2.2 hP.grown hNew.2.2.2.size (by omega)))
     have hsr := Lib.hid hset.range
     have hP' := Lib.hid hP
     have hbk := Lib.hid hP.blk
     have hzi : Hid ((Tryz.prog.info? 113).map (·.size) = some (dirC D.priv la ln lc a2 (rn + 1) c2).length) := sizeDr
     obtain ⟨r2, hr2e⟩ : ∃ r2, Hid (dirC D.priv la ln lc a2 (rn + 1) c2 = r2) := ⟨_, rfl⟩
     rw [hr2e.out] at hsr hP' hbk hzi hfin
     clear hQ2 hQ3 hNew hset hP hone hX
     go_wp2_with (first
      | (refine wpList_load_mid (by rfl) 113 (.tmp 1) (by rfl) tb 0 (by rfl) r2 _ hsr.out Tryz.underlying113 (by rfl) hzi.out ?_)
       | (refine wpList_store_mid (by rfl) 113 (.tmp 2) (.tmp 67) (by rfl) (tb + 1) 0 r2.toArray (by rfl) (by rfl) hP'.out.there hP'.out.info (by simpa using hP'.out.one) ?_
          generalize hWq : World.setCells _ _ _ _ = Wa
          obtain rfl : W9 = Wa := by rw [← hWq]; exact hP'.out.eq
          clear hWq))
     refine ret_cell_tmp (p := 2) (u := 3) rfl hbk.out Tryz.underlying113 rfl hzi.out rfl rfl rfl ?_
     exact hfin.out

theorem tick_any (K : Nat → Prop) (D : Dir) (la : Option Addr) (ln lc : Nat) (ra : Option Addr) (rn rc : Nat) (w : World) (HT : Tabs w) (H : DM K w D la ln lc ra rn rc) : Calls Tryz.prog 129 #[.agg (dirC D.priv la ln lc ra rn rc).toArray] w (TickPost (Go.Dr.tickD 4 D) la ln lc w) := by
 unfold Go.Dr.tickD
 cases hk : keyOk D.priv with
 | false => exact (tick_key K D la ln lc ra rn rc w HT H hk).mono (fun e w' h => .inr ⟨by simp, h.1, h.2⟩)
 | true =>
  cases hc : Go.Dr.chkL D.ls with
  | false => exact (tick_chk K D la ln lc ra rn rc w HT H hk hc).mono (fun e w' h => .inr ⟨by simp, h.1, h.2⟩)
  | true =>
   by_cases hl : D.rs.length < 65536
   · refine (tick_ok K D la ln lc ra rn rc w HT H hk hc hl).mono ?_
     rintro e w' ⟨a, n, c, rfl, hQ, hb⟩
     simp only [if_true, if_pos hl]
     exact .inl ⟨rfl, a, n, c, rfl, hQ, hb⟩
   · simp only [if_true, if_neg hl]
     exact (tick_lim K D la ln lc ra rn rc w HT H hk hc (by omega)).mono (fun e w' h => .inr ⟨by simp, h.1, h.2⟩)
end Go.Proofs.YtlpgjdlkjahdgaaGreatDoor
