/- views.Accept -/
import Derived.Test.YtnonfdcbnkdmcaaGreatDoorAl
import Derived.Test.YtnonfdcbnkdmcaaGreatDoorVwC
namespace Go.Proofs.YtnonfdcbnkdmcaaGreatDoor
open Go.RowKit Go.Mem Go.Shelf
open Go.Sto (Ent)
open Go.Vw (Hd Fk fitsB zeroH zeroF zeroV lastH ownsB validB accuse entOk accV accOk accD posH hasH insH)
def Frs (w : World) (a0 a : Option Addr) (n : Nat) : Prop := 0 < n → ∀ ad, a = some ad → w.heap.size ≤ ad.block ∨ a0 = some ad
def Frz (w : World) (n0 : Nat) (a0 a : Option Addr) (n : Nat) : Prop := 0 < n → ∀ ad, a = some ad → w.heap.size ≤ ad.block ∨ (0 < n0 ∧ a0 = some ad)
theorem frs0 (w : World) (n0 : Nat) (a0 a : Option Addr) : Frz w n0 a0 a 0 := fun h => absurd h (Nat.lt_irrefl 0)
theorem frsE (w : World) (a : Option Addr) (n : Nat) : Frz w n a a n := fun h _ e => .inr ⟨h, e⟩
theorem Frz.s {w : World} {n0 : Nat} {a0 a : Option Addr} {n : Nat} (h : Frz w n0 a0 a n) : Frs w a0 a n := fun hp ad e => (h hp ad e).imp id (·.2)
def AccPost2 (x : Vw.V × Fk × Int) (da0 ha0 : Option Addr) (w : World) (e : Ending) (w' : World) : Prop :=
 ∃ da dn dc ha hn hc fa fn fc, e = .returned (.tuple #[.agg #[.int .i64 x.1.st, .int .i64 x.1.fo, .int .i64 x.1.pub, .slice da dn dc, .slice ha hn hc], .agg (forkC x.2.1 fa fn fc).toArray, .int .i64 x.2.2]) ∧ VM w' x.1 da dn dc ha hn hc ∧ OkF x.2.1 ∧ DS w' fa fn fc x.2.1.ds ∧ fn ≤ 100000 ∧ Below w.heap.size w w' ∧ Frs w da0 da dn ∧ Frs w ha0 ha hn ∧ Frs w da0 fa fn
def AccPost3 (x : Vw.V × Fk × Int) (da0 : Option Addr) (dn0 : Nat) (ha0 : Option Addr) (hn0 : Nat) (w : World) (e : Ending) (w' : World) : Prop :=
 ∃ da dn dc ha hn hc fa fn fc, e = .returned (.tuple #[.agg #[.int .i64 x.1.st, .int .i64 x.1.fo, .int .i64 x.1.pub, .slice da dn dc, .slice ha hn hc], .agg (forkC x.2.1 fa fn fc).toArray, .int .i64 x.2.2]) ∧ VM w' x.1 da dn dc ha hn hc ∧ OkF x.2.1 ∧ DS w' fa fn fc x.2.1.ds ∧ fn ≤ 100000 ∧ Below w.heap.size w w' ∧ Frz w dn0 da0 da dn ∧ Frz w hn0 ha0 ha hn ∧ Frz w dn0 da0 fa fn

set_option maxRecDepth 100000 in
set_option maxHeartbeats 20000000 in
theorem accept_sep2 (v : Vw.V) (da : Option Addr) (dn dc : Nat) (ha : Option Addr) (hn hc : Nat) (la : Option Addr) (ln lc : Nat) (es : List Ent) (h : Hd) (ok : OkH h) (w : World) (HT : Tabs w) (H : VM w v da dn dc ha hn hc) (HE : ES (fun _ => True) w la ln lc es) (hhn : hn + 1 ≤ 100000) :
 Calls Tryz.prog 30 #[.agg #[.int .i64 v.st, .int .i64 v.fo, .int .i64 v.pub, .slice da dn dc, .slice ha hn hc], .slice la ln lc, .agg (hdC h).toArray] w (AccPost3 (accV v es h) da dn ha hn w) := by
 have H' := Lib.hid H; have HT' := Lib.hid HT; have HE' := Lib.hid HE
 have hlen := HE.rs.len
 have hlb := HE.bd
 have l63 : (ln : Int) ≤ 100000 := by omega
 clear H HT HE
 obtain ⟨tb, htb⟩ : ∃ tb, Hid (w.heap.size = tb) := ⟨_, rfl⟩
 obtain ⟨W1, hW1⟩ : ∃ W1, W1 = (((w.alloc (.cells #[.int .i64 v.st, .int .i64 v.fo, .int .i64 v.pub, .slice da dn dc, .slice ha hn hc] 50)).alloc (.cells (hdC h).toArray 36)).alloc (.cells zrV.toArray 50)).alloc (.cells zrF.toArray 53) := ⟨_, rfl⟩
 have A1 : Hid (AccB w tb [.int .i64 v.st, .int .i64 v.fo, .int .i64 v.pub, .slice da dn dc, .slice ha hn hc] (hdC h) zrV zrF W1) := by
  have e1 : (w.alloc (.cells #[.int .i64 v.st, .int .i64 v.fo, .int .i64 v.pub, .slice da dn dc, .slice ha hn hc] 50)).heap.size = tb + 1 := by rw [World.size_alloc, htb.out]
  have e2 : ((w.alloc (.cells #[.int .i64 v.st, .int .i64 v.fo, .int .i64 v.pub, .slice da dn dc, .slice ha hn hc] 50)).alloc (.cells (hdC h).toArray 36)).heap.size = tb + 1 + 1 := by rw [World.size_alloc, e1]
  have e3 : (((w.alloc (.cells #[.int .i64 v.st, .int .i64 v.fo, .int .i64 v.pub, .slice da dn dc, .slice ha hn hc] 50)).alloc (.cells (hdC h).toArray 36)).alloc (.cells zrV.toArray 50)).heap.size = tb + 1 + 1 + 1 := by rw [World.size_alloc, e2]
  rw [hW1]
  refine ⟨?_, ?_, ?_, ?_, ?_, Nat.le_of_eq htb.out⟩
  · rw [← htb.out]; exact (((Blk.new w _ _).alloc _).alloc _).alloc _
  · rw [← e1]; exact ((Blk.new _ _ _).alloc _).alloc _
  · rw [← e2]; exact (Blk.new _ _ _).alloc _
  · rw [← e3]; exact Blk.new _ _ _
  · exact ((((Below.refl _ w).alloc (Nat.le_refl _) _).alloc (by simp) _).alloc (by simp; omega) _).alloc (by simp; omega) _
 have zi := infoF okF0 none 0 0
 rw [show forkC zeroF none 0 0 = zrF from rfl] at zi
 have zone := Lib.hid (forkC_one okF0 none 0 0)
 rw [show forkC zeroF none 0 0 = zrF from rfl] at zone
 have vone : Hid (∀ u ∈ zrV, u.oneCell' = true) := view_one 0 0 0 none none 0 0 0 0
 obtain ⟨X, hX⟩ : ∃ X, X = AccPost3 (accV v es h) da dn ha hn w := ⟨_, rfl⟩
 rw [← hX]
 have hX' := Lib.hid hX
 clear hX
 have herr : Hid (accOk v es h = false → ∀ W, Below w.heap.size w W → X (.returned (.tuple #[.agg zrV.toArray, .agg zrF.toArray, .int .i64 320])) W) := fun ha W hb => by
  rw [hX'.out]
  unfold accV
  rw [ha]
  exact ⟨none, 0, 0, none, 0, 0, none, 0, 0, rfl, vm0 W, okF0, ds_nil W, by omega, hb, frs0 _ _ _ _, frs0 _ _ _ _, frs0 _ _ _ _⟩
 have hval := Lib.hid (fun W hT h => viewValid_any v da dn dc ha hn hc W hT h)
 have hown := Lib.hid (fun W (hT : Tabs W) => owns_any v da dn dc ha hn hc h ok W hT H'.out.pub)
 have hri := infoHd ok
 have hok : Hid (accOk v es h = (validB v && ownsB v h && decide (h.no = (ln : Int)) && es.all entOk && fitsB h (es.map (·.dig)))) := by show _ = _; rw [← hlen]; rfl
 obtain ⟨vb, hvb⟩ : ∃ vb, Hid (validB v = vb) := ⟨_, rfl⟩
 obtain ⟨ob, hob⟩ : ∃ ob, Hid (ownsB v h = ob) := ⟨_, rfl⟩
 rw [hvb.out] at hval hok
 rw [hob.out] at hown hok
 have b0 := A1.out.bV.at_ (i := 0) rfl
 have b1 := A1.out.bV.at_ (i := 1) rfl
 have b2 := A1.out.bV.at_ (i := 2) rfl
 have b3 := A1.out.bV.at_ (i := 3) rfl
 have b4 := A1.out.bV.at_ (i := 4) rfl
 go_enter Tryz.func30, Tryz.ntmps30
 go_upto_region 1 with fail
 rw [htb.out]
 generalize hWq : (((w.alloc _).alloc _).alloc _).alloc _ = Wq
 obtain rfl : W1 = Wq := by rw [← hWq, hW1]; rfl
 clear hWq hW1
 obtain ⟨W2, hP⟩ := put_row (ty := 93) (Blk.new W1 93 zrV) (x := [.int .i64 v.st, .int .i64 v.fo, .int .i64 v.pub, .slice da dn dc, .slice ha hn hc]) rfl sizeVv (view_one _ _ _ _ _ _ _ _ _)
 obtain ⟨tw, hto⟩ : ∃ tw, Hid (W1.heap.size = tw) := ⟨_, rfl⟩
 have hgw : W1.grownBy W2 none := ⟨hP.grown.os, hP.grown.tape, hP.grown.output, Nat.le_trans (by simp) hP.grown.size, fun q hq _ => (hP.grown.block q (by simp; omega) (fun e => by cases e; omega)).trans (Below.heap_alloc W1 _ q hq)⟩
 have A2 := Lib.hid (A1.out.grown hgw)
 have hto1 : tb + 1 + 1 + 1 < tw := by rw [← hto.out]; exact A1.out.bF.lt
 have hBo : Hid (Blk W2 tw 93 [.int .i64 v.st, .int .i64 v.fo, .int .i64 v.pub, .slice da dn dc, .slice ha hn hc]) := by rw [← hto.out]; exact hP.blk
 have hP' := Lib.hid hP
 clear hP hgw A1
 go_upto_region 2 with (first
  | (refine wpList_store_mid (by rfl) 93 _ _ (by rfl) W1.heap.size 0 ([.int .i64 v.st, .int .i64 v.fo, .int .i64 v.pub, .slice da dn dc, .slice ha hn hc] : List Value).toArray (by rfl) (by rfl) hP'.out.there hP'.out.info (by simpa using hP'.out.one) ?_
     generalize hWq : World.setCells _ _ _ _ = Wa
     obtain rfl : W2 = Wa := by rw [← hWq]; exact hP'.out.eq
     clear hWq))
 rw [hto.out]
 try simp only [Act.put]
 clear hP' b0 b1 b2 b3 b4 hto
 have o0 := hBo.out.at_ (i := 0) rfl
 have o1 := hBo.out.at_ (i := 1) rfl
 have o2 := hBo.out.at_ (i := 2) rfl
 have o3 := hBo.out.at_ (i := 3) rfl
 have o4 := hBo.out.at_ (i := 4) rfl
 go_wp2_with fail
 refine (hval.out _ (HT'.out.below A2.out.bel) (H'.out.below A2.out.bel)).mono ?_
 rintro e w3 ⟨rfl, hb3⟩
 have A3 := Lib.hid (A2.out.below hb3)
 have hBo3 := Lib.hid (hBo.out.below hb3 hBo.out.lt)
 clear o0 o1 o2 o3 o4 hb3 hBo A2 hval
 have sizeRv : Hid ((Tryz.prog.info? 50).map (·.size) = some zrV.length) := sizeVw
 cases vb with
 | false =>
  go_upto_region 3 with fail
  generalize zrF = rf at *
  refine wp_region_held_drew (S := fun wz => AccB w tb [.int .i64 v.st, .int .i64 v.fo, .int .i64 v.pub, .slice da dn dc, .slice ha hn hc] (hdC h) zrV rf wz) (by kernel_rfl) (A3.out.below (Below.refl _ _).drew) (fun hHeld => ?_)
  refine tG 0 (v := ?_) rfl (Or.inl ⟨by rfl, ?_⟩) hHeld ?_
  rotate_left
  · intro wz hSw
    have q0 := hSw.bR.at_ (i := 0) rfl
    have q1 := hSw.bR.at_ (i := 1) rfl
    have q2 := hSw.bR.at_ (i := 2) rfl
    have q3 := hSw.bR.at_ (i := 3) rfl
    have q4 := hSw.bR.at_ (i := 4) rfl
    go_simp
    all_goals (with_reducible rfl)
  try simp only [Act.put, sA, s0, s1]
  refine tY 1 rfl (tb + 1 + 1 + 1) 0 (rf) (fun wz h => h.bF.range) Tryz.underlying53 zi.out hHeld ?_
  refine tO 2 rfl (fun K hK => ?_)
  refine wp_store_mid 50 _ _ rfl (tb + 1 + 1) 0 zrV.toArray (by rfl) (by rfl) (there_of hHeld.bR rfl) (by rw [List.size_toArray]; exact sizeVw) (by simpa using vone.out) ?_
  refine hK.out _ _ (hHeld.setR rfl) (fun hHeld => ?_)
  clear hK K
  try simp only [Act.put]
  refine tO 3 rfl (fun K hK => ?_)
  refine wp_store_mid 53 _ _ rfl (tb + 1 + 1 + 1) 0 rf.toArray (by rfl) (by rfl) (there_of hHeld.bF rfl) (by rw [List.size_toArray]; exact zi.out) (by simpa using zone.out) ?_
  refine hK.out _ _ (hHeld.setF rfl) (fun hHeld => ?_)
  clear hK K
  try simp only [Act.put]
  refine tQ 4 rfl hHeld ?_
  refine wpAnyH_done (by kernel_rfl) ?_ _
  have hfin := Lib.hid (herr.out (by rw [hok.out]; rfl) _ hHeld.bel)
  have hB1 := Lib.hid hHeld.bR
  have hB2 := Lib.hid hHeld.bF
  clear hHeld
  generalize zrV = rv at *
  go_wp2_with fail
  exact ret_cell_cell_tmp (fn := Tryz.f30) (p := 6) (q := 7) (u := 8) rfl hB1.out Tryz.underlying50 rfl sizeRv.out hB2.out Tryz.underlying53 rfl zi.out rfl rfl rfl rfl hfin.out
 | true =>
  have o0 := hBo3.out.at_ (i := 0) rfl
  have o1 := hBo3.out.at_ (i := 1) rfl
  have o2 := hBo3.out.at_ (i := 2) rfl
  have o3 := hBo3.out.at_ (i := 3) rfl
  have o4 := hBo3.out.at_ (i := 4) rfl
  have hrg := Lib.hid A3.out.bH.range
  go_wp2_with (first
   | (refine wpList_load_g (by rfl) 36 _ (by rfl) (tb + 1) 0 (by rfl) (hdC h) _ hrg.out Tryz.underlying36 (by rfl) hri.out ?_))
  refine (hown.out _ (HT'.out.below A3.out.bel)).mono ?_
  rintro e w4 ⟨rfl, hb4⟩
  have A4 := Lib.hid (A3.out.below hb4)
  have hBo4 := Lib.hid (hBo3.out.below hb4 hBo3.out.lt)
  clear o0 o1 o2 o3 o4 hb4 hBo3 A3 hown hrg
  cases ob with
  | false =>
   go_upto_region 3 with fail
   generalize zrF = rf at *
   refine wp_region_held_drew (S := fun wz => AccB w tb [.int .i64 v.st, .int .i64 v.fo, .int .i64 v.pub, .slice da dn dc, .slice ha hn hc] (hdC h) zrV rf wz) (by kernel_rfl) (A4.out.below (Below.refl _ _).drew) (fun hHeld => ?_)
   refine tG 0 (v := ?_) rfl (Or.inl ⟨by rfl, ?_⟩) hHeld ?_
   rotate_left
   · intro wz hSw
     have q0 := hSw.bR.at_ (i := 0) rfl
     have q1 := hSw.bR.at_ (i := 1) rfl
     have q2 := hSw.bR.at_ (i := 2) rfl
     have q3 := hSw.bR.at_ (i := 3) rfl
     have q4 := hSw.bR.at_ (i := 4) rfl
     go_simp
     all_goals (with_reducible rfl)
   try simp only [Act.put, sA, s0, s1]
   refine tY 1 rfl (tb + 1 + 1 + 1) 0 (rf) (fun wz h => h.bF.range) Tryz.underlying53 zi.out hHeld ?_
   refine tO 2 rfl (fun K hK => ?_)
   refine wp_store_mid 50 _ _ rfl (tb + 1 + 1) 0 zrV.toArray (by rfl) (by rfl) (there_of hHeld.bR rfl) (by rw [List.size_toArray]; exact sizeVw) (by simpa using vone.out) ?_
   refine hK.out _ _ (hHeld.setR rfl) (fun hHeld => ?_)
   clear hK K
   try simp only [Act.put]
   refine tO 3 rfl (fun K hK => ?_)
   refine wp_store_mid 53 _ _ rfl (tb + 1 + 1 + 1) 0 rf.toArray (by rfl) (by rfl) (there_of hHeld.bF rfl) (by rw [List.size_toArray]; exact zi.out) (by simpa using zone.out) ?_
   refine hK.out _ _ (hHeld.setF rfl) (fun hHeld => ?_)
   clear hK K
   try simp only [Act.put]
   refine tQ 4 rfl hHeld ?_
   refine wpAnyH_done (by kernel_rfl) ?_ _
   have hfin := Lib.hid (herr.out (by rw [hok.out]; rfl) _ hHeld.bel)
   have hB1 := Lib.hid hHeld.bR
   have hB2 := Lib.hid hHeld.bF
   clear hHeld
   generalize zrV = rv at *
   go_wp2_with fail
   exact ret_cell_cell_tmp (fn := Tryz.f30) (p := 6) (q := 7) (u := 8) rfl hB1.out Tryz.underlying50 rfl sizeRv.out hB2.out Tryz.underlying53 rfl zi.out rfl rfl rfl rfl hfin.out
  | true =>
   have cn := A4.out.bH.at_ (hdC_2 h)
   by_cases hno : h.no = (ln : Int)
   case neg =>
    have g1 : (h.no != (ln : Int)) = true := by simpa using hno
    have hbad : accOk v es h = false := by rw [hok.out, decide_eq_false hno]; rfl
    clear hno hok
    go_upto_region 3 with fail
    generalize zrF = rf at *
    refine wp_region_held_drew (S := fun wz => AccB w tb [.int .i64 v.st, .int .i64 v.fo, .int .i64 v.pub, .slice da dn dc, .slice ha hn hc] (hdC h) zrV rf wz) (by kernel_rfl) (A4.out.below (Below.refl _ _).drew) (fun hHeld => ?_)
    refine tG 0 (v := ?_) rfl (Or.inl ⟨by rfl, ?_⟩) hHeld ?_
    rotate_left
    · intro wz hSw
      have q0 := hSw.bR.at_ (i := 0) rfl
      have q1 := hSw.bR.at_ (i := 1) rfl
      have q2 := hSw.bR.at_ (i := 2) rfl
      have q3 := hSw.bR.at_ (i := 3) rfl
      have q4 := hSw.bR.at_ (i := 4) rfl
      go_simp
      all_goals (with_reducible rfl)
    try simp only [Act.put, sA, s0, s1]
    refine tY 1 rfl (tb + 1 + 1 + 1) 0 (rf) (fun wz h => h.bF.range) Tryz.underlying53 zi.out hHeld ?_
    refine tO 2 rfl (fun K hK => ?_)
    refine wp_store_mid 50 _ _ rfl (tb + 1 + 1) 0 zrV.toArray (by rfl) (by rfl) (there_of hHeld.bR rfl) (by rw [List.size_toArray]; exact sizeVw) (by simpa using vone.out) ?_
    refine hK.out _ _ (hHeld.setR rfl) (fun hHeld => ?_)
    clear hK K
    try simp only [Act.put]
    refine tO 3 rfl (fun K hK => ?_)
    refine wp_store_mid 53 _ _ rfl (tb + 1 + 1 + 1) 0 rf.toArray (by rfl) (by rfl) (there_of hHeld.bF rfl) (by rw [List.size_toArray]; exact zi.out) (by simpa using zone.out) ?_
    refine hK.out _ _ (hHeld.setF rfl) (fun hHeld => ?_)
    clear hK K
    try simp only [Act.put]
    refine tQ 4 rfl hHeld ?_
    refine wpAnyH_done (by kernel_rfl) ?_ _
    have hfin := Lib.hid (herr.out hbad _ hHeld.bel)
    have hB1 := Lib.hid hHeld.bR
    have hB2 := Lib.hid hHeld.bF
    clear hHeld
    generalize zrV = rv at *
    go_wp2_with fail
    exact ret_cell_cell_tmp (fn := Tryz.f30) (p := 6) (q := 7) (u := 8) rfl hB1.out Tryz.underlying50 rfl sizeRv.out hB2.out Tryz.underlying53 rfl zi.out rfl rfl rfl rfl hfin.out
   case pos =>
    have g1 : (h.no != (ln : Int)) = false := by simpa using hno
    have hok2 : Hid (accOk v es h = (es.all entOk && fitsB h (es.map (·.dig)))) := by show _ = _; rw [hok.out, decide_eq_true hno]; rfl
    have hno' := Lib.hid hno
    clear hno hok
    go_wp2_with fail
    clear g1 cn
    go_loopw [10, 39] (fun sl i wr => ∃ (k : Nat) (sv : Value), k ≤ ln ∧ i = .int .i64 k ∧ sl = sv ∧ Hid (OwnD w4 wr sv ((es.take k).map (·.dig))) ∧ Hid (Below w4.heap.size w4 wr) ∧ Hid (∀ x ∈ es.take k, entOk x = true)) (fun _ i _ => ln - (intOf i).toNat)
    case atStart => exact ⟨0, _, Nat.zero_le _, rfl, rfl, ⟨World.ownsRow_nil w4 _ _ _, fun _ h => by cases h⟩, Below.refl _ _, fun _ h => by cases h⟩
    case round =>
     obtain ⟨k, sv, hk, rfl, rfl, hO, hbw, hall⟩ := hrel
     have Ar := Lib.hid (A4.out.below hbw.out)
     by_cases hklt : k < ln
     case pos =>
      obtain ⟨x, hx⟩ : ∃ x, es[k]? = some x := ⟨_, List.getElem?_eq_getElem (by omega)⟩
      obtain ⟨b, off, r, rfl, hbl, _, ⟨ho, ea, en, ec, er, hbk⟩, hrl, hrg⟩ := (HE'.out.below Ar.out.bel).rs.get hx
      obtain ⟨W5, hP⟩ := put_row (ty := 75) (Blk.new wr 75 (entC ⟨0, List.replicate 32 0, [], false⟩ none 0 0)) (x := r) (by rw [hrl]; rfl) (by rw [hrl]; exact sizeE) (by rw [er]; exact entC_one _ _ _ _)
      obtain ⟨te, hte⟩ : ∃ te, Hid (wr.heap.size = te) := ⟨_, rfl⟩
      have hgw : wr.grownBy W5 none := ⟨hP.grown.os, hP.grown.tape, hP.grown.output, Nat.le_trans (by simp) hP.grown.size, fun q hq _ => (hP.grown.block q (by simp; omega) (fun e => by cases e; omega)).trans (Below.heap_alloc wr _ q hq)⟩
      have hbw5 : Below wr.heap.size wr W5 := (Below.refl _ wr).grown hgw (Nat.le_refl _) (fun _ e => by cases e)
      have A5 := Lib.hid (Ar.out.below hbw5)
      have hbe : Hid (Blk W5 te 75 r) := by rw [← hte.out]; exact hP.blk
      have hri2 : Hid ((Tryz.prog.info? 75).map (·.size) = some r.length) := by show _ = _; rw [hrl]; exact sizeE
      have hrg' := Lib.hid hrg
      have hrg5 : Hid (W5.rangeAt wr.heap.size 0 r) := hP.blk.range
      have hdt := Lib.hid (hbk.bs.below hbw5)
      have hbb5 := Lib.hid (hbw.out.trans (hbw5.mono hbw.out.size))
      have hO5 : Hid (OwnD w4 W5 u10 ((es.take k).map (·.dig))) := ⟨hO.out.1.kept hgw (by first | exact .inl rfl | (rcases hO.out.1.2 with ⟨e, _⟩ | ⟨g, cap, cur, e, _⟩ <;> rw [e] <;> simp [Value.ownBlock])), hO.out.2⟩
      have hise := Lib.hid (fun W hT hB => isEntry_any x ho ea en ec W hT hB)
      rw [← er] at hise
      have ho' := Lib.hid ho
      have er' := Lib.hid er
      clear er
      have hP' := Lib.hid hP
      have hx' := Lib.hid hx
      have k0 : (0 : Int) ≤ (k : Int) := by omega
      have k1 : (k : Int) < (ln : Int) := by omega
      have hte1 : w4.heap.size ≤ te := by rw [← hte.out]; exact hbw.out.size
      obtain ⟨xb, hxb⟩ : ∃ xb, Hid (entOk x = xb) := ⟨_, rfl⟩
      rw [hxb.out] at hise
      clear hP hgw hbw5 hrg ho hbk hbl hrl hx Ar hbw hO
      go_wp2_with (first
       | (refine wpList_store_mid (by rfl) 75 _ _ (by rfl) wr.heap.size 0 r.toArray (by rfl) (by rfl) hP'.out.there hP'.out.info (by simpa using hP'.out.one) ?_
          generalize hWq : World.setCells _ _ _ _ = Wa
          obtain rfl : W5 = Wa := by rw [← hWq]; exact hP'.out.eq
          clear hWq)
           | (refine wpList_load_g (by rfl) 75 _ (by rfl) wr.heap.size 0 (by rfl) r _ hrg5.out Tryz.underlying75 (by rfl) hri2.out ?_)
           | (refine wpList_load_g (by rfl) 75 _ (by rfl) b (off + k * 35) (by rfl) r _ hrg'.out Tryz.underlying75 (by rfl) hri2.out ?_))
      rw [hte.out]
      refine (hise.out _ (HT'.out.below A5.out.bel) hdt.out).mono ?_
      rintro e w6 ⟨rfl, hb6⟩
      have A6 := Lib.hid (A5.out.below hb6)
      have hbe6 := Lib.hid (hbe.out.below hb6 hbe.out.lt)
      have hbb6 := Lib.hid (hbb5.out.trans (hb6.mono hbb5.out.size))
      have hO6 : Hid (OwnD w4 w6 u10 ((es.take k).map (·.dig))) := ⟨hO5.out.1.kept (grown_of_below hb6 none) (by rcases hO5.out.1.2 with ⟨e, _⟩ | ⟨g, cap, cur, e, _⟩ <;> rw [e] <;> simp [Value.ownBlock]), hO5.out.2⟩
      clear hb6 hbb5 hbe A5 hO5 hrg5 hrg' hP' hise hdt hte hri2
      cases xb with
      | false =>
       have hbad : accOk v es h = false := by
        rw [hok2.out]
        have : es.all entOk = false := List.all_eq_false.2 ⟨x, List.mem_of_getElem? hx'.out, by rw [hxb.out]; simp⟩
        rw [this]; rfl
       go_upto_region 9 with fail
       generalize zrF = rf at *
       refine wp_region_held_drew (S := fun wz => AccB w tb [.int .i64 v.st, .int .i64 v.fo, .int .i64 v.pub, .slice da dn dc, .slice ha hn hc] (hdC h) zrV rf wz) (by kernel_rfl) (A6.out.below (Below.refl _ _).drew) (fun hHeld => ?_)
       refine tG 0 (v := ?_) rfl (Or.inl ⟨by rfl, ?_⟩) hHeld ?_
       rotate_left
       · intro wz hSw
         have q0 := hSw.bR.at_ (i := 0) rfl
         have q1 := hSw.bR.at_ (i := 1) rfl
         have q2 := hSw.bR.at_ (i := 2) rfl
         have q3 := hSw.bR.at_ (i := 3) rfl
         have q4 := hSw.bR.at_ (i := 4) rfl
         go_simp
         all_goals (with_reducible rfl)
       try simp only [Act.put, sA, s0, s1]
       refine tY 1 rfl (tb + 1 + 1 + 1) 0 (rf) (fun wz h => h.bF.range) Tryz.underlying53 zi.out hHeld ?_
       refine tO 2 rfl (fun K hK => ?_)
       refine wp_store_mid 50 _ _ rfl (tb + 1 + 1) 0 zrV.toArray (by rfl) (by rfl) (there_of hHeld.bR rfl) (by rw [List.size_toArray]; exact sizeVw) (by simpa using vone.out) ?_
       refine hK.out _ _ (hHeld.setR rfl) (fun hHeld => ?_)
       clear hK K
       try simp only [Act.put]
       refine tO 3 rfl (fun K hK => ?_)
       refine wp_store_mid 53 _ _ rfl (tb + 1 + 1 + 1) 0 rf.toArray (by rfl) (by rfl) (there_of hHeld.bF rfl) (by rw [List.size_toArray]; exact zi.out) (by simpa using zone.out) ?_
       refine hK.out _ _ (hHeld.setF rfl) (fun hHeld => ?_)
       clear hK K
       try simp only [Act.put]
       refine tQ 4 rfl hHeld ?_
       refine wpAnyH_done (by kernel_rfl) ?_ _
       have hfin := Lib.hid (herr.out hbad _ hHeld.bel)
       have hB1 := Lib.hid hHeld.bR
       have hB2 := Lib.hid hHeld.bF
       clear hHeld
       generalize zrV = rv at *
       go_wp2_with fail
       exact ret_cell_cell_tmp (fn := Tryz.f30) (p := 6) (q := 7) (u := 8) rfl hB1.out Tryz.underlying50 rfl sizeRv.out hB2.out Tryz.underlying53 rfl zi.out rfl rfl rfl rfl hfin.out
      | true =>
       rw [er'.out] at hbe6
       clear er'
       have hE6 := EntB.of hbe6.out ho'.out.dig
       have hdr := Lib.hid hE6.dig
       have hdi : Hid ((Tryz.prog.info? 32).map (·.size) = some (bv x.dig).length) := by show _ = _; rw [bv_length, ho'.out.dig]; exact size35
       have hdl : ((es.take k).map (·.dig)).length + 1 ≤ 1000000000000 := by rw [List.length_map, List.length_take]; omega
       obtain ⟨v', W7, hr7, hO7, hb7⟩ := append_dg (d := x.dig) hO6.out hbb6.out ⟨ho'.out.dig, ho'.out.lt⟩ hdl
       have htk : (es.take k).map (·.dig) ++ [x.dig] = (es.take (k + 1)).map (·.dig) := by
        rw [List.take_succ_eq_append_getElem (by have := (List.getElem?_eq_some_iff.1 hx'.out).1; exact this), List.map_append, (List.getElem?_eq_some_iff.1 hx'.out).2]; rfl
       rw [htk] at hO7
       have hall2 : Hid (∀ y ∈ es.take (k + 1), entOk y = true) := fun y hy => by
        rw [List.take_succ_eq_append_getElem (by have := (List.getElem?_eq_some_iff.1 hx'.out).1; exact this), (List.getElem?_eq_some_iff.1 hx'.out).2] at hy
        rcases List.mem_append.1 hy with hy | hy
        · exact hall.out y hy
        · rw [List.mem_singleton] at hy; subst hy; exact hxb.out
       have hr7' := Lib.hid hr7; have hO7' := Lib.hid hO7; have hb7' := Lib.hid hb7
       have hd32 := ho'.out.dig
       clear hr7 hO7 hb7 htk hE6 hbe6 hO6 hbb6 hall hxb hx' hdl A6 hd32
       go_wp2_with (first
        | (refine wpList_load_g (by rfl) 32 _ (by rfl) te 1 (by rfl) (bv x.dig) _ hdr.out Tryz.underlying32 (by rfl) hdi.out ?_)
         | (refine wpList_buildSlice_run (by rfl) 47 1 _ rfl #[(0, .agg (bv x.dig).toArray)] (by simp only [List.map_toArray, List.map_cons, List.map_nil]; rfl) (dig_slice1 ho'.out.dig _) ?_)
         | (at_builtin; refine Lib.wpList_append_run _ rfl _ _ _ _ rfl _ _ rfl rfl _ _ (hr7'.out _) ?_))
       go_roundw
       case rel => exact ⟨k + 1, v', by omega, by go_num, rfl, hO7', hb7', hall2⟩
       case measure => simp [intOf]; omega
     case neg =>
      obtain rfl : k = ln := by omega
      rw [List.take_of_length_le (by omega)] at hO hall
      obtain ⟨da2, dc2, rfl, hD⟩ := hO.out.ds
      have hlow : Hid (∀ ad, da2 = some ad → tb + 1 + 1 + 1 < ad.block) := fun ad e => by
       obtain ⟨_, _, hv, _, h3⟩ := Sl.of_owns hO.out.1
       cases hv
       have := (h3 ad e).1
       have := A4.out.bF.lt
       omega
      have hhigh := hD.at_lt
      have hdl : (es.map (·.dig)).length = k := by rw [List.length_map]; exact hlen
      rw [hdl] at hD hhigh
      have hhigh' := Lib.hid hhigh
      clear hhigh
      have hok3 : Hid (accOk v es h = fitsB h (es.map (·.dig))) := by
       show _ = _
       rw [hok2.out, show es.all entOk = true from List.all_eq_true.2 hall.out, Bool.true_and]
      have hfit := Lib.hid (fun W hT hS => fits_any h ok da2 k dc2 (es.map (·.dig)) W hT hS hlb)
      obtain ⟨ds, hds⟩ : ∃ ds, Hid (es.map (·.dig) = ds) := ⟨_, rfl⟩
      rw [hds.out] at hD hok3 hfit hdl
      obtain ⟨fb, hfb⟩ : ∃ fb, Hid (fitsB h ds = fb) := ⟨_, rfl⟩
      rw [hfb.out] at hok3 hfit
      have hD' := Lib.hid hD
      have hrg := Lib.hid Ar.out.bH.range
      have hBor := Lib.hid (hBo4.out.below hbw.out hBo4.out.lt)
      clear hO hall hok2 hbw hD A4 hBo4
      go_wp2_with (first
       | (refine wpList_load_g (by rfl) 36 _ (by rfl) (tb + 1) 0 (by rfl) (hdC h) _ hrg.out Tryz.underlying36 (by rfl) hri.out ?_))
      refine (hfit.out _ (HT'.out.below Ar.out.bel) hD'.out).mono ?_
      rintro e w5 ⟨rfl, hb5⟩
      have A5 := Lib.hid (Ar.out.below hb5)
      have hBo5 := Lib.hid (hBor.out.below hb5 hBor.out.lt)
      have hD5 := Lib.hid (hD'.out.below hb5)
      have hhigh5 := Lib.hid (fun hp ad e => Nat.lt_of_lt_of_le (hhigh'.out hp ad e) hb5.size)
      clear hb5 hrg hD' Ar hfit hBor
      cases fb with
      | false =>
       go_upto_region 13 with fail
       generalize zrF = rf at *
       refine wp_region_held_drew (S := fun wz => AccB w tb [.int .i64 v.st, .int .i64 v.fo, .int .i64 v.pub, .slice da dn dc, .slice ha hn hc] (hdC h) zrV rf wz) (by kernel_rfl) (A5.out.below (Below.refl _ _).drew) (fun hHeld => ?_)
       refine tG 0 (v := ?_) rfl (Or.inl ⟨by rfl, ?_⟩) hHeld ?_
       rotate_left
       · intro wz hSw
         have q0 := hSw.bR.at_ (i := 0) rfl
         have q1 := hSw.bR.at_ (i := 1) rfl
         have q2 := hSw.bR.at_ (i := 2) rfl
         have q3 := hSw.bR.at_ (i := 3) rfl
         have q4 := hSw.bR.at_ (i := 4) rfl
         go_simp
         all_goals (with_reducible rfl)
       try simp only [Act.put, sA, s0, s1]
       refine tY 1 rfl (tb + 1 + 1 + 1) 0 (rf) (fun wz h => h.bF.range) Tryz.underlying53 zi.out hHeld ?_
       refine tO 2 rfl (fun K hK => ?_)
       refine wp_store_mid 50 _ _ rfl (tb + 1 + 1) 0 zrV.toArray (by rfl) (by rfl) (there_of hHeld.bR rfl) (by rw [List.size_toArray]; exact sizeVw) (by simpa using vone.out) ?_
       refine hK.out _ _ (hHeld.setR rfl) (fun hHeld => ?_)
       clear hK K
       try simp only [Act.put]
       refine tO 3 rfl (fun K hK => ?_)
       refine wp_store_mid 53 _ _ rfl (tb + 1 + 1 + 1) 0 rf.toArray (by rfl) (by rfl) (there_of hHeld.bF rfl) (by rw [List.size_toArray]; exact zi.out) (by simpa using zone.out) ?_
       refine hK.out _ _ (hHeld.setF rfl) (fun hHeld => ?_)
       clear hK K
       try simp only [Act.put]
       refine tQ 4 rfl hHeld ?_
       refine wpAnyH_done (by kernel_rfl) ?_ _
       have hfin := Lib.hid (herr.out (by rw [hok3.out]) _ hHeld.bel)
       have hB1 := Lib.hid hHeld.bR
       have hB2 := Lib.hid hHeld.bF
       clear hHeld
       generalize zrV = rv at *
       go_wp2_with fail
       exact ret_cell_cell_tmp (fn := Tryz.f30) (p := 6) (q := 7) (u := 8) rfl hB1.out Tryz.underlying50 rfl sizeRv.out hB2.out Tryz.underlying53 rfl zi.out rfl rfl rfl rfl hfin.out
      | true =>
       have hacc : Hid (accV v es h = accD v ds h) := by
        show _ = _
        unfold accV
        rw [hok3.out, if_pos rfl, hds.out]
       clear hok3 hds herr hri
       have hfl : ds.length = k := hdl
       obtain ⟨W7, hP⟩ : ∃ W7, PutR 93 ((w5.alloc (.cells (hdC h).toArray 36)).alloc (.cells zrV.toArray 93)) W7 (w5.heap.size + 1) 93 [.int .i64 v.st, .int .i64 v.fo, .int .i64 v.pub, .slice da2 k dc2, .slice (some ⟨w5.heap.size, 0, none⟩) 1 1] := by
        have := Blk.new (w5.alloc (.cells (hdC h).toArray 36)) 93 zrV
        rw [World.size_alloc] at this
        exact put_row (ty := 93) this (x := [.int .i64 v.st, .int .i64 v.fo, .int .i64 v.pub, .slice da2 k dc2, .slice (some ⟨w5.heap.size, 0, none⟩) 1 1]) rfl sizeVv (view_one _ _ _ _ _ _ _ _ _)
       have hgw : w5.grownBy W7 none := ⟨hP.grown.os, hP.grown.tape, hP.grown.output, Nat.le_trans (by simp; omega) hP.grown.size, fun q hq _ => (hP.grown.block q (by simp; omega) (fun e => by cases e; omega)).trans ((Below.heap_alloc _ _ q (by simp; omega)).trans (Below.heap_alloc w5 _ q hq))⟩
       have hb7 : Below w5.heap.size w5 W7 := (Below.refl _ w5).grown hgw (Nat.le_refl _) (fun _ e => by cases e)
       have A7 := Lib.hid (A5.out.below hb7)
       have hBo7 := Lib.hid (hBo5.out.below hb7 hBo5.out.lt)
       have hD7 := Lib.hid (hD5.out.below hb7)
       have hh7 : Blk W7 w5.heap.size 36 (hdC h) := ((Blk.new w5 36 (hdC h)).alloc _).grown hP.grown (fun e => by injection e with e; omega)
       have hN7 := hP.blk
       obtain ⟨ts, hts⟩ : ∃ ts, Hid (w5.heap.size = ts) := ⟨_, rfl⟩
       have hts1 : tw < ts := by rw [← hts.out]; exact hBo5.out.lt
       have hP' := Lib.hid hP
       have hbs := fun W => hd_slice1 ok W
       have hrg := Lib.hid A5.out.bH.range
       have b0 := A5.out.bV.at_ (i := 0) rfl
       have b1 := A5.out.bV.at_ (i := 1) rfl
       have b2 := A5.out.bV.at_ (i := 2) rfl
       have hri := infoHd ok
       clear hP hgw hb7 A5 hBo5 hD5
       go_upto_region 16 with (first
        | (refine wpList_load_g (by rfl) 36 _ (by rfl) (tb + 1) 0 (by rfl) (hdC h) _ hrg.out Tryz.underlying36 (by rfl) hri.out ?_)
         | (refine wpList_buildSlice_run (by rfl) 48 1 _ rfl #[(0, .agg (hdC h).toArray)] (by simp only [List.map_toArray, List.map_cons, List.map_nil]; rfl) (hbs _) ?_)
         | (refine wpList_store_mid (by rfl) 93 _ _ (by rfl) (w5.heap.size + 1) 0 ([.int .i64 v.st, .int .i64 v.fo, .int .i64 v.pub, .slice da2 k dc2, .slice (some ⟨w5.heap.size, 0, none⟩) 1 1] : List Value).toArray (by rfl) (by rfl) hP'.out.there hP'.out.info (by simpa using hP'.out.one) ?_
            generalize hWq : World.setCells _ _ _ _ = Wa
            obtain rfl : W7 = Wa := by rw [← hWq]; exact hP'.out.eq
            clear hWq))
       rw [hts.out] at hh7 hN7 ⊢
       have hhigh6 : Hid (0 < k → ∀ ad, da2 = some ad → ad.block < ts) := fun hp ad e => by rw [← hts.out]; exact hhigh5.out hp ad e
       clear hP' hrg b0 b1 b2 hbs hts
       have hN7' := Lib.hid hN7
       have hh7' := Lib.hid hh7
       clear hN7 hh7
       have b3 := A7.out.bV.at_ (i := 3) rfl
       have b4 := A7.out.bV.at_ (i := 4) rfl
       have n0 := hN7'.out.at_ (i := 0) rfl
       have n1 := hN7'.out.at_ (i := 1) rfl
       have n2 := hN7'.out.at_ (i := 2) rfl
       have n3 := hN7'.out.at_ (i := 3) rfl
       have n4 := hN7'.out.at_ (i := 4) rfl
       have hHS1 := Lib.hid (hs_one ok hh7'.out)
       have hdn := H'.out.ds.len
       have hbd := H'.out.bd
       have hOk := Lib.hid ((Vw.validB_iff v).1 hvb.out)
       have hnos : Hid (∀ x ∈ v.hs, 0 ≤ x.no ∧ x.no ≤ 1000000) := fun x hx => by
        have h1 := Vw.fits_no (hOk.out.fits x hx)
        rw [hdn] at h1
        exact ⟨h1.1, by omega⟩
       have hyf : Hid (0 < hn → ∀ ad, ha = some ad → ad.block < tb ∨ tb + 1 + 1 + 1 < ad.block) := fun hp ad e => .inl (by have := H'.out.hs.at_lt hp ad e; rw [htb.out] at this; exact this)
       by_cases hcmp : dn ≤ k
       case pos =>
        have hcd : decide (dn ≤ k) = true := decide_eq_true hcmp
        have hci : decide ((dn : Int) ≤ (k : Int)) = true := decide_eq_true (by omega)
        have hVM : Hid (VM W7 ⟨v.st, v.fo, v.pub, ds, [h]⟩ da2 k dc2 (some ⟨ts, 0, none⟩) 1 1) := ⟨H'.out.st, H'.out.fo, H'.out.pub, hD7.out, hHS1.out, hlb⟩
        have hacu := Lib.hid (accuse_any ⟨v.st, v.fo, v.pub, ds, [h]⟩ da2 k dc2 (some ⟨ts, 0, none⟩) 1 1 ha hn hc v.hs W7 (HT'.out.below A7.out.bel) hVM.out (H'.out.hs.below A7.out.bel))
        have hspec : Hid (accV v es h = if (accuse ⟨v.st, v.fo, v.pub, ds, [h]⟩ v.hs).2 then (v, (accuse ⟨v.st, v.fo, v.pub, ds, [h]⟩ v.hs).1, 321) else (⟨v.st, v.fo, v.pub, ds, insH h v.hs⟩, zeroF, 0)) := by
         show _ = _
         rw [hacc.out]
         unfold accD
         rw [if_pos (by rw [hdn, hfl]; exact hcmp)]
        have hzf := Lib.hid (fun e => (Vw.accuse_f (v := ⟨v.st, v.fo, v.pub, ds, [h]⟩) (hs := v.hs) e).1)
        obtain ⟨AC, hAC⟩ : ∃ AC, Hid (accuse ⟨v.st, v.fo, v.pub, ds, [h]⟩ v.hs = AC) := ⟨_, rfl⟩
        rw [hAC.out] at hacu hspec hzf
        clear hAC hVM hcmp hacc
        go_wp2_with fail
        have hX7 := Lib.hid hD7.out
        have hxs : Hid (Frz w dn da da2 k) := fun _ ad e => .inl (by have h1 := hlow.out ad e; have h2 := htb.out; omega)
        have hxf : Hid (0 < k → ∀ ad, da2 = some ad → ad.block < tb ∨ tb + 1 + 1 + 1 < ad.block) := fun _ ad e => .inr (hlow.out ad e)
        have hxg : Hid (0 < k → ∀ ad, da2 = some ad → ad.block ≠ ts + 1) := fun hp ad e => by have := hhigh6.out hp ad e; omega
        refine hacu.out.mono ?_
        rintro e w8 ⟨hcase, okf, hb8⟩
        have A8 := Lib.hid (A7.out.below hb8)
        have hN8 := Lib.hid (hN7'.out.below hb8 hN7'.out.lt)
        have hX8 := Lib.hid (hX7.out.below hb8)
        obtain ⟨f, b⟩ := AC
        simp only [] at hspec okf hcase
        have hcase' := Lib.hid hcase
        have okf' := Lib.hid okf
        clear hcase okf hb8 A7 hN7' hX7 hacu n0 n1 n2 n3 n4 b3 b4
        rcases hcase'.out with ⟨rfl, hfd, rfl⟩ | ⟨he, rfl⟩
        · skip
          have hfd' := Lib.hid hfd
          have hsp : Hid (accV v es h = (v, f, 321)) := by show _ = _; rw [hspec.out, if_pos rfl]
          have fi := infoF okf'.out da2 k dc2
          have fone := Lib.hid (forkC_one okf'.out da2 k dc2)
          obtain ⟨W9, hQ⟩ := put_row (ty := 53) A8.out.bF (x := forkC f da2 k dc2) (by rw [forkC_len okf'.out]; rfl) (by rw [forkC_len okf'.out]; exact sizeF) fone.out
          have A9 : Hid (AccB w tb [.int .i64 v.st, .int .i64 v.fo, .int .i64 v.pub, .slice da dn dc, .slice ha hn hc] (hdC h) zrV (forkC f da2 k dc2) W9) := by have := A8.out.setF (r := forkC f da2 k dc2) (by rw [forkC_len okf'.out]; rfl); rw [← hQ.eq] at this; exact this
          clear hfd
          have hN9 := Lib.hid (hN8.out.grown hQ.grown (fun e => by injection e with e; omega))
          have hX9 := Lib.hid (hX8.out.grown hQ.grown (fun hp ad e => by have := hxf.out hp ad e; omega))
          have hQ' := Lib.hid hQ
          have rfe : Hid (forkC f da2 k dc2 = forkC f da2 k dc2) := rfl
          clear hQ A8 hN8 hX8 hspec hcase'
          generalize hrf : forkC f da2 k dc2 = rf at hQ'
          go_upto_region 20 with (first
           | (refine wpList_store_mid (by rfl) 53 _ _ (by rfl) (tb + 1 + 1 + 1) 0 rf.toArray (by rfl) (by rfl) hQ'.out.there hQ'.out.info (by simpa using hQ'.out.one) ?_
              generalize hWq : World.setCells _ _ _ _ = Wa
              obtain rfl : W9 = Wa := by rw [← hWq]; exact hQ'.out.eq
              clear hWq))
          try simp only [Act.put]
          clear hQ' rfe
          subst hrf
          go_upto_region 21 with fail
          generalize hrf : forkC f da2 k dc2 = rf at *
          refine wp_region_held_drew (S := fun wz => Blk wz tb 50 [.int .i64 v.st, .int .i64 v.fo, .int .i64 v.pub, .slice da dn dc, .slice ha hn hc] ∧ DS wz da2 k dc2 ds ∧ ∃ rR : List Value, rR.length = 5 ∧ AccB w tb [.int .i64 v.st, .int .i64 v.fo, .int .i64 v.pub, .slice da dn dc, .slice ha hn hc] (hdC h) rR (rf) wz) (by kernel_rfl) (⟨A9.out.bV, hX9.out.below (Below.refl _ _).drew, zrV, rfl, A9.out.below (Below.refl _ _).drew⟩) (fun hHeld => ?_)
          refine tG 0 (v := ?_) rfl (Or.inl ⟨by rfl, ?_⟩) hHeld ?_
          rotate_left
          · intro wz hSw
            have q0 := hSw.1.at_ (i := 0) rfl
            have q1 := hSw.1.at_ (i := 1) rfl
            have q2 := hSw.1.at_ (i := 2) rfl
            have q3 := hSw.1.at_ (i := 3) rfl
            have q4 := hSw.1.at_ (i := 4) rfl
            go_simp
            all_goals (with_reducible rfl)
          try simp only [Act.put, sA, s0, s1]
          refine tY 1 rfl (tb + 1 + 1 + 1) 0 (rf) (fun wz h => (by obtain ⟨_, _, _, _, hA⟩ := h; exact hA.bF.range)) Tryz.underlying53 fi.out hHeld ?_
          obtain ⟨hS1, hS2, rR, hrR, hAq⟩ := id hHeld
          refine tO 2 rfl (fun K hK => ?_)
          refine wp_store_mid 50 _ _ rfl (tb + 1 + 1) 0 ([.int .i64 v.st, .int .i64 v.fo, .int .i64 v.pub, .slice da dn dc, .slice ha hn hc] : List Value).toArray (by rfl) (by rfl) (there_of hAq.bR (by rw [hrR]; rfl)) (by rw [List.size_toArray]; exact sizeVw) (by rw [List.all_toArray]; rfl) ?_
          have hAs := hAq.setR (r := [.int .i64 v.st, .int .i64 v.fo, .int .i64 v.pub, .slice da dn dc, .slice ha hn hc]) (by rw [hrR]; rfl)
          have hgs := (storedB hAq.bR (vs := [.int .i64 v.st, .int .i64 v.fo, .int .i64 v.pub, .slice da dn dc, .slice ha hn hc]) (by rw [hrR]; rfl)).grown
          have hS3 := hS2.grown hgs (fun hp ad e => by have := hxf.out hp ad e; omega)
          have hS4 := hS1.grown hgs (fun e => by injection e with e; omega)
          refine hK.out _ _ ⟨hS4, hS3, [.int .i64 v.st, .int .i64 v.fo, .int .i64 v.pub, .slice da dn dc, .slice ha hn hc], rfl, hAs⟩ (fun hHeld => ?_)
          clear hK K
          try simp only [Act.put]
          refine tO 3 rfl (fun K hK => ?_)
          refine wp_store_mid 53 _ _ rfl (tb + 1 + 1 + 1) 0 (rf).toArray (by rfl) (by rfl) (there_of hAs.bF rfl) (by rw [List.size_toArray]; exact fi.out) (by simpa using fone.out) ?_
          have hAt := hAs.setF (r := rf) rfl
          have hgt := (storedB hAs.bF (vs := rf) rfl).grown
          have hS5 := hS3.grown hgt (fun hp ad e => by have := hxf.out hp ad e; omega)
          refine hK.out _ _ ⟨hS4.grown hgt (fun e => by injection e with e; omega), hS5, [.int .i64 v.st, .int .i64 v.fo, .int .i64 v.pub, .slice da dn dc, .slice ha hn hc], rfl, hAt⟩ (fun hHeld => ?_)
          clear hK K
          try simp only [Act.put]
          refine tQ 4 rfl hHeld ?_
          refine wpAnyH_done (by kernel_rfl) ?_ _
          have hfin0 := (fun W hb hds => by rw [hX'.out, hsp.out]; exact ⟨da, dn, dc, ha, hn, hc, da2, k, dc2, rfl, H'.out.below hb, okf'.out, by rw [hfd'.out]; exact hds, hlb, hb, frsE _ _ _, frsE _ _ _, hxs.out⟩ : ∀ W, Below w.heap.size w W → DS W da2 k dc2 ds → X (.returned (.tuple #[.agg #[.int .i64 v.st, .int .i64 v.fo, .int .i64 v.pub, .slice da dn dc, .slice ha hn hc], .agg (forkC f da2 k dc2).toArray, .int .i64 321])) W) _ hAt.bel hS5
          rw [hrf] at hfin0
          have hfin := Lib.hid hfin0
          have hB1 := Lib.hid hAt.bR
          have hB2 := Lib.hid hAt.bF
          have fi9 := fi
          clear hfin0 hAt hAs hHeld hAq hS1 hS2 hS3 hS4 hS5 hgs hgt
          go_wp2_with fail
          exact ret_cell_cell_tmp (fn := Tryz.f30) (p := 6) (q := 7) (u := 8) rfl hB1.out Tryz.underlying50 rfl sizeVw hB2.out Tryz.underlying53 rfl fi9.out rfl rfl rfl rfl hfin.out
        · skip
          injection he with he1 he2
          subst he1 he2
          have hsp : Hid (accV v es h = (⟨v.st, v.fo, v.pub, ds, insH h v.hs⟩, zeroF, 0)) := by show _ = _; rw [hspec.out]; rfl
          obtain ⟨W9, hQ⟩ := put_row (ty := 53) A8.out.bF (x := zrF) rfl sizeF zone.out
          have A9 : Hid (AccB w tb [.int .i64 v.st, .int .i64 v.fo, .int .i64 v.pub, .slice da dn dc, .slice ha hn hc] (hdC h) zrV (zrF) W9) := by have := A8.out.setF (r := zrF) rfl; rw [← hQ.eq] at this; exact this
          have hN9 := Lib.hid (hN8.out.grown hQ.grown (fun e => by injection e with e; omega))
          have hX9 := Lib.hid (hX8.out.grown hQ.grown (fun hp ad e => by have := hxf.out hp ad e; omega))
          have hQ' := Lib.hid hQ
          have rfe : Hid (zrF = zrF) := rfl
          clear hQ A8 hN8 hX8 hspec hcase'
          generalize hrf : zrF = rf at hQ'
          go_upto_region 20 with (first
           | (refine wpList_store_mid (by rfl) 53 _ _ (by rfl) (tb + 1 + 1 + 1) 0 rf.toArray (by rfl) (by rfl) hQ'.out.there hQ'.out.info (by simpa using hQ'.out.one) ?_
              generalize hWq : World.setCells _ _ _ _ = Wa
              obtain rfl : W9 = Wa := by rw [← hWq]; exact hQ'.out.eq
              clear hWq))
          try simp only [Act.put]
          clear hQ' rfe
          subst hrf
          have b4 := A9.out.bV.at_ (i := 4) rfl
          have n4 := hN9.out.at_ (i := 4) rfl
          have nf := hN9.out.frozen 4
          go_upto_region 23 with fail
          clear b4 n4 nf
          have hg10 : W9.grownBy (W9.setCell ⟨ts + 1, 4, none⟩ (.slice ha hn hc)) (some (ts + 1)) := grown_set (World.grownBy.refl W9 _) (.inl rfl) _
          have hN10 : Hid (Blk (W9.setCell ⟨ts + 1, 4, none⟩ (.slice ha hn hc)) (ts + 1) 93 [.int .i64 v.st, .int .i64 v.fo, .int .i64 v.pub, .slice da2 k dc2, .slice ha hn hc]) := hN9.out.set 4 _
          have A10 := Lib.hid (A9.out.far hg10 (by omega))
          have hX10 := Lib.hid (hX9.out.grown hg10 (fun hp ad e => by have := hxg.out hp ad e; omega))
          clear A9 hN9 hX9 hg10
          generalize W9.setCell _ _ = w10 at *
          have b4 := A10.out.bV.at_ (i := 4) rfl
          have c2 := A10.out.bH.at_ (hdC_2 h)
          have hbsf := Lib.hid (bsfH_any ha hn hc v.hs h.no w10 (H'.out.hs.below A10.out.bel) hOk.out.up ⟨by rw [hno'.out]; omega, by rw [hno'.out]; omega⟩ hnos.out)
          go_wp2_with fail
          refine hbsf.out.mono ?_
          rintro e w11 ⟨rfl, hb11⟩
          have A11 := Lib.hid (A10.out.below hb11)
          have hN11 := Lib.hid (hN10.out.below hb11 hN10.out.lt)
          have hX11 := Lib.hid (hX10.out.below hb11)
          clear b4 c2 hbsf hb11 A10 hN10 hX10
          obtain ⟨hb, hhb⟩ : ∃ hb, Hid (hasH h.no v.hs = hb) := ⟨_, rfl⟩
          rw [hhb.out]
          cases hb with
          | true =>
           have hins : insH h v.hs = v.hs := Vw.insH_has' hhb.out
           have hVM : Hid (VM w11 ⟨v.st, v.fo, v.pub, ds, v.hs⟩ da2 k dc2 ha hn hc) := ⟨H'.out.st, H'.out.fo, H'.out.pub, hX11.out, H'.out.hs.below A11.out.bel, hlb⟩
           rw [hins] at hsp
           go_upto_region 26 with fail
           generalize hrf : zrF = rf at *
           refine wp_region_held_drew (S := fun wz => Blk wz (ts + 1) 93 [.int .i64 v.st, .int .i64 v.fo, .int .i64 v.pub, .slice da2 k dc2, .slice ha hn hc] ∧ VM wz ⟨v.st, v.fo, v.pub, ds, v.hs⟩ da2 k dc2 ha hn hc ∧ ∃ rR : List Value, rR.length = 5 ∧ AccB w tb [.int .i64 v.st, .int .i64 v.fo, .int .i64 v.pub, .slice da dn dc, .slice ha hn hc] (hdC h) rR (rf) wz) (by kernel_rfl) (⟨hN11.out, hVM.out.below (Below.refl _ _).drew, zrV, rfl, A11.out.below (Below.refl _ _).drew⟩) (fun hHeld => ?_)
           refine tQ 0 rfl hHeld ?_
           refine tG 1 (v := ?_) rfl (Or.inl ⟨by rfl, ?_⟩) hHeld ?_
           rotate_left
           · intro wz hSw
             have q0 := hSw.1.at_ (i := 0) rfl
             have q1 := hSw.1.at_ (i := 1) rfl
             have q2 := hSw.1.at_ (i := 2) rfl
             have q3 := hSw.1.at_ (i := 3) rfl
             have q4 := hSw.1.at_ (i := 4) rfl
             go_simp
             all_goals (with_reducible rfl)
           try simp only [Act.put, sA, s0, s1]
           refine tY 2 rfl (tb + 1 + 1 + 1) 0 (rf) (fun wz h => (by obtain ⟨_, _, _, _, hA⟩ := h; exact hA.bF.range)) Tryz.underlying53 zi.out hHeld ?_
           obtain ⟨hS1, hS2, rR, hrR, hAq⟩ := id hHeld
           refine tO 3 rfl (fun K hK => ?_)
           refine wp_store_mid 50 _ _ rfl (tb + 1 + 1) 0 ([.int .i64 v.st, .int .i64 v.fo, .int .i64 v.pub, .slice da2 k dc2, .slice ha hn hc] : List Value).toArray (by rfl) (by rfl) (there_of hAq.bR (by rw [hrR]; rfl)) (by rw [List.size_toArray]; exact sizeVw) (by rw [List.all_toArray]; rfl) ?_
           have hAs := hAq.setR (r := [.int .i64 v.st, .int .i64 v.fo, .int .i64 v.pub, .slice da2 k dc2, .slice ha hn hc]) (by rw [hrR]; rfl)
           have hgs := (storedB hAq.bR (vs := [.int .i64 v.st, .int .i64 v.fo, .int .i64 v.pub, .slice da2 k dc2, .slice ha hn hc]) (by rw [hrR]; rfl)).grown
           have hS3 := hS2.grown hgs (fun hp ad e => by have := hxf.out hp ad e; omega) (fun hp ad e => by have := hyf.out hp ad e; omega)
           have hS4 := hS1.grown hgs (fun e => by injection e with e; omega)
           refine hK.out _ _ ⟨hS4, hS3, [.int .i64 v.st, .int .i64 v.fo, .int .i64 v.pub, .slice da2 k dc2, .slice ha hn hc], rfl, hAs⟩ (fun hHeld => ?_)
           clear hK K
           try simp only [Act.put]
           refine tO 4 rfl (fun K hK => ?_)
           refine wp_store_mid 53 _ _ rfl (tb + 1 + 1 + 1) 0 (rf).toArray (by rfl) (by rfl) (there_of hAs.bF rfl) (by rw [List.size_toArray]; exact zi.out) (by simpa using zone.out) ?_
           have hAt := hAs.setF (r := rf) rfl
           have hgt := (storedB hAs.bF (vs := rf) rfl).grown
           have hS5 := hS3.grown hgt (fun hp ad e => by have := hxf.out hp ad e; omega) (fun hp ad e => by have := hyf.out hp ad e; omega)
           refine hK.out _ _ ⟨hS4.grown hgt (fun e => by injection e with e; omega), hS5, [.int .i64 v.st, .int .i64 v.fo, .int .i64 v.pub, .slice da2 k dc2, .slice ha hn hc], rfl, hAt⟩ (fun hHeld => ?_)
           clear hK K
           try simp only [Act.put]
           refine tQ 5 rfl hHeld ?_
           refine wpAnyH_done (by kernel_rfl) ?_ _
           have hfin0 := (fun W hb hds => by rw [hX'.out, hsp.out]; exact ⟨da2, k, dc2, ha, hn, hc, none, 0, 0, rfl, hds, okF0, ds_nil W, by omega, hb, hxs.out, frsE _ _ _, frs0 _ _ _ _⟩ : ∀ W, Below w.heap.size w W → VM W ⟨v.st, v.fo, v.pub, ds, v.hs⟩ da2 k dc2 ha hn hc → X (.returned (.tuple #[.agg #[.int .i64 v.st, .int .i64 v.fo, .int .i64 v.pub, .slice da2 k dc2, .slice ha hn hc], .agg (zrF).toArray, .int .i64 0])) W) _ hAt.bel hS5
           rw [hrf] at hfin0
           have hfin := Lib.hid hfin0
           have hB1 := Lib.hid hAt.bR
           have hB2 := Lib.hid hAt.bF
           have fi9 := zi
           clear hfin0 hAt hAs hHeld hAq hS1 hS2 hS3 hS4 hS5 hgs hgt
           go_wp2_with fail
           exact ret_cell_cell_tmp (fn := Tryz.f30) (p := 6) (q := 7) (u := 8) rfl hB1.out Tryz.underlying50 rfl sizeVw hB2.out Tryz.underlying53 rfl fi9.out rfl rfl rfl rfl hfin.out
          | false =>
           have hins : insH h v.hs = v.hs.take (posH h.no v.hs) ++ [h] ++ v.hs.drop (posH h.no v.hs) := Vw.insH_new' hhb.out
           obtain ⟨ps, hps⟩ : ∃ ps, Hid (posH h.no v.hs = ps) := ⟨_, rfl⟩
           have hpl : ps ≤ hn := by rw [← hps.out]; have := Vw.posH_le h.no v.hs; have := H'.out.hs.rs.len; omega
           rw [hps.out] at hins ⊢
           obtain ⟨nhs, hnhs⟩ : ∃ nhs, Hid (v.hs.take ps ++ [h] ++ v.hs.drop ps = nhs) := ⟨_, rfl⟩
           rw [hnhs.out] at hins
           rw [hins] at hsp
           have hnl : nhs.length = hn + 1 := by rw [← hnhs.out]; have := H'.out.hs.rs.len; simp; omega
           have hnok : Hid (∀ x ∈ nhs, OkH x) := fun x hx => by
            rw [← hnhs.out] at hx
            rcases List.mem_append.1 hx with hx | hx
            · rcases List.mem_append.1 hx with hx | hx
              · exact H'.out.hs.ok (List.mem_of_mem_take hx)
              · rw [List.mem_singleton] at hx; rw [hx]; exact ok
            · exact H'.out.hs.ok (List.mem_of_mem_drop hx)
           have hHw := Lib.hid (H'.out.hs.below A11.out.bel)
           have hoks := Lib.hid H'.out.hs.oks
           have hbs := fun W => hd_slice1 ok W
           have hri := infoHd ok
           go_upto_region 25 with fail
           clear hbs
           refine wp_region_held_drew (S := fun wz => AccB w tb [.int .i64 v.st, .int .i64 v.fo, .int .i64 v.pub, .slice da dn dc, .slice ha hn hc] (hdC h) zrV zrF wz ∧ ∃ r : List Value, r.length = 5 ∧ Blk wz (ts + 1) 93 r) (by kernel_rfl) (⟨A11.out.below (Below.refl _ _).drew, _, rfl, hN11.out⟩) (fun hHeld => ?_)
           refine tQ 0 rfl hHeld ?_
           refine tX 1 rfl (fun wz hSw => hSw.1.bV.at_ (i := 4) rfl) hHeld ?_
           refine tQ 3 rfl hHeld ?_
           refine tY 4 rfl (tb + 1) 0 (hdC h) (fun wz h => h.1.bH.range) Tryz.underlying36 hri.out hHeld ?_
           refine rd (rs := [2, 5]) ?_
           refine tR rfl (fun K hK => ?_) (tR rfl (fun K hK => ?_) rn)
           case refine_1 =>
            go_simp
            go_at_call 63
            refine (cloneH_any ha hn hc (hdRows v.hs) _ (H'.out.hs.below (w' := w11.drew) A11.out.bel.drew).reads (hdRows_one hoks.out) (by omega)).mono ?_
            rintro e w12 ⟨v1, rfl, hown12, hb12⟩
            refine hK.out _ _ ⟨hHeld.1.below hb12, by obtain ⟨r, hr, hq⟩ := hHeld.2; exact ⟨r, hr, hq.below hb12 hq.lt⟩⟩ (fun hHeld => ?_)
            clear hK K
            try simp only [Act.put, sA, s0, s1]
            refine tO 5 rfl (fun K hK => ?_)
            refine wp_buildSlice_run 48 1 _ rfl #[(0, .agg (hdC h).toArray)] (by simp only [List.map_toArray, List.map_cons, List.map_nil]; rfl) (hd_slice1 ok _) ?_
            have hb13 : Below w11.heap.size w11 (w12.alloc (.cells (hdC h).toArray 36)) := ((Below.refl _ w11).drew.trans hb12).alloc hb12.size _
            have hvB13 : Blk (w12.alloc (.cells (hdC h).toArray 36)) w12.heap.size 36 (hdC h) := Blk.new w12 _ _
            have hown13 : (w12.alloc (.cells (hdC h).toArray 36)).ownsRow w11.heap.size 36 37 v1 hn (hdRows v.hs) := World.ownsRow.alloc hown12 _
            have hvne : ∀ r, v1.ownBlock = some r → w12.heap.size ≠ r := fun r e => by have := (World.ownsRow.lt hown12 r e).2; omega
            refine hK.out _ _ ⟨hHeld.1.below ((Below.refl _ w12).alloc (Nat.le_refl _) _), by obtain ⟨r, hr, hq⟩ := hHeld.2; exact ⟨r, hr, hq.below ((Below.refl _ w12).alloc (Nat.le_refl _) _) hq.lt⟩⟩ (fun hHeld => ?_)
            clear hK K
            try simp only [Act.put, sA, s0, s1]
            obtain ⟨vb, hvb2⟩ : ∃ vb, w12.heap.size = vb := ⟨_, rfl⟩
            rw [hvb2] at hvB13 hvne ⊢
            generalize w12.alloc _ = w13 at *
            refine tO 6 rfl (fun K hK => ?_)
            go_simp
            go_at_call 62
            refine (insertH_any w11.heap.size v1 hn ps (hdRows v.hs) (hdC h) w13 hown13 hpl (hdRows_one hoks.out) vb hvB13 hvne (hdC_len ok) (hdC_r ok).one (by have := hb13.size; exact this) (by omega)).mono ?_
            rintro e w14 ⟨v2, rfl, hown14, hb14⟩
            rw [hdRows_ins hoks.out, hnhs.out, ← hnl] at hown14
            obtain ⟨a2, c2, rfl, hHS⟩ := hs_own hnok.out hown14 (by rw [hnl]; exact hhn)
            rw [hnl] at hHS hown14
            have hHS14 := Lib.hid hHS
            have hlo2 : Hid (∀ ad, a2 = some ad → w11.heap.size ≤ ad.block) := fun ad e => by
             obtain ⟨_, _, hv, _, h3⟩ := Sl.of_owns hown14
             cases hv
             exact (h3 ad e).1
            have hb14' : Below w11.heap.size w11 w14 := hb13.trans hb14
            have A14 := Lib.hid (A11.out.belowB hb14' (by have := A11.out.bF.lt; exact this))
            have hN14 := Lib.hid (hN11.out.below hb14' hN11.out.lt)
            have hX14 := Lib.hid (hX11.out.below hb14')
            rw [hnl]
            refine hK.out _ _ ⟨A14.out, _, rfl, hN14.out⟩ (fun hHeld => ?_)
            clear hK K
            try simp only [Act.put, sA, s0, s1]
            refine tQ 7 rfl hHeld ?_
            refine tQ 8 rfl hHeld ?_
            have m4 := hN14.out.at_ (i := 4) rfl
            have mf := hN14.out.frozen 4
            have hg15 : w14.grownBy (w14.setCell ⟨ts + 1, 4, none⟩ (.slice a2 (hn + 1) c2)) (some (ts + 1)) := grown_set (World.grownBy.refl w14 _) (.inl rfl) _
            have hN15 : Hid (Blk (w14.setCell ⟨ts + 1, 4, none⟩ (.slice a2 (hn + 1) c2)) (ts + 1) 93 [.int .i64 v.st, .int .i64 v.fo, .int .i64 v.pub, .slice da2 k dc2, .slice a2 (hn + 1) c2]) := hN14.out.set 4 _
            have A15 := Lib.hid (A14.out.far hg15 (by omega))
            have hne2 : ∀ ad, a2 = some ad → ad.block ≠ ts + 1 := fun ad e => by have := hlo2.out ad e; have := hN11.out.lt; omega
            have hVM15 : Hid (VM (w14.setCell ⟨ts + 1, 4, none⟩ (.slice a2 (hn + 1) c2)) ⟨v.st, v.fo, v.pub, ds, nhs⟩ da2 k dc2 a2 (hn + 1) c2) :=
             ⟨H'.out.st, H'.out.fo, H'.out.pub, hX14.out.grown hg15 (fun hp ad e => by have := hxg.out hp ad e; omega), hHS14.out.grown hg15 (fun _ => hne2), hlb⟩
            have hyx : Hid (Frz w hn ha a2 (hn + 1)) := fun _ ad e => .inl (Nat.le_trans A11.out.bel.size (hlo2.out ad e))
            have hyf2 : Hid (0 < hn + 1 → ∀ ad, a2 = some ad → ad.block < tb ∨ tb + 1 + 1 + 1 < ad.block) := fun _ ad e => .inr (by have := hlo2.out ad e; have := A11.out.bF.lt; omega)
            refine tO 9 rfl (fun K hK => ?_)
            go_simp
            refine hK.out _ _ ⟨A15.out, _, rfl, hN15.out⟩ (fun hHeld => ?_)
            clear hK K
            try simp only [Act.put, sA, s0, s1]
            refine wpAnyH_done (by kernel_rfl) ?_ _
            clear m4 mf hg15 hHeld
            generalize w14.setCell _ _ = w15 at *
            go_upto_region 26 with fail
            generalize hrf : zrF = rf at *
            refine wp_region_held_drew (S := fun wz => Blk wz (ts + 1) 93 [.int .i64 v.st, .int .i64 v.fo, .int .i64 v.pub, .slice da2 k dc2, .slice a2 (hn + 1) c2] ∧ VM wz ⟨v.st, v.fo, v.pub, ds, nhs⟩ da2 k dc2 a2 (hn + 1) c2 ∧ ∃ rR : List Value, rR.length = 5 ∧ AccB w tb [.int .i64 v.st, .int .i64 v.fo, .int .i64 v.pub, .slice da dn dc, .slice ha hn hc] (hdC h) rR (rf) wz) (by kernel_rfl) (⟨hN15.out, hVM15.out.below (Below.refl _ _).drew, zrV, rfl, A15.out.below (Below.refl _ _).drew⟩) (fun hHeld => ?_)
            refine tQ 0 rfl hHeld ?_
            refine tG 1 (v := ?_) rfl (Or.inl ⟨by rfl, ?_⟩) hHeld ?_
            rotate_left
            · intro wz hSw
              have q0 := hSw.1.at_ (i := 0) rfl
              have q1 := hSw.1.at_ (i := 1) rfl
              have q2 := hSw.1.at_ (i := 2) rfl
              have q3 := hSw.1.at_ (i := 3) rfl
              have q4 := hSw.1.at_ (i := 4) rfl
              go_simp
              all_goals (with_reducible rfl)
            try simp only [Act.put, sA, s0, s1]
            refine tY 2 rfl (tb + 1 + 1 + 1) 0 (rf) (fun wz h => (by obtain ⟨_, _, _, _, hA⟩ := h; exact hA.bF.range)) Tryz.underlying53 zi.out hHeld ?_
            obtain ⟨hS1, hS2, rR, hrR, hAq⟩ := id hHeld
            refine tO 3 rfl (fun K hK => ?_)
            refine wp_store_mid 50 _ _ rfl (tb + 1 + 1) 0 ([.int .i64 v.st, .int .i64 v.fo, .int .i64 v.pub, .slice da2 k dc2, .slice a2 (hn + 1) c2] : List Value).toArray (by rfl) (by rfl) (there_of hAq.bR (by rw [hrR]; rfl)) (by rw [List.size_toArray]; exact sizeVw) (by rw [List.all_toArray]; rfl) ?_
            have hAs := hAq.setR (r := [.int .i64 v.st, .int .i64 v.fo, .int .i64 v.pub, .slice da2 k dc2, .slice a2 (hn + 1) c2]) (by rw [hrR]; rfl)
            have hgs := (storedB hAq.bR (vs := [.int .i64 v.st, .int .i64 v.fo, .int .i64 v.pub, .slice da2 k dc2, .slice a2 (hn + 1) c2]) (by rw [hrR]; rfl)).grown
            have hS3 := hS2.grown hgs (fun hp ad e => by have := hxf.out hp ad e; omega) (fun hp ad e => by have := hyf2.out hp ad e; omega)
            have hS4 := hS1.grown hgs (fun e => by injection e with e; omega)
            refine hK.out _ _ ⟨hS4, hS3, [.int .i64 v.st, .int .i64 v.fo, .int .i64 v.pub, .slice da2 k dc2, .slice a2 (hn + 1) c2], rfl, hAs⟩ (fun hHeld => ?_)
            clear hK K
            try simp only [Act.put]
            refine tO 4 rfl (fun K hK => ?_)
            refine wp_store_mid 53 _ _ rfl (tb + 1 + 1 + 1) 0 (rf).toArray (by rfl) (by rfl) (there_of hAs.bF rfl) (by rw [List.size_toArray]; exact zi.out) (by simpa using zone.out) ?_
            have hAt := hAs.setF (r := rf) rfl
            have hgt := (storedB hAs.bF (vs := rf) rfl).grown
            have hS5 := hS3.grown hgt (fun hp ad e => by have := hxf.out hp ad e; omega) (fun hp ad e => by have := hyf2.out hp ad e; omega)
            refine hK.out _ _ ⟨hS4.grown hgt (fun e => by injection e with e; omega), hS5, [.int .i64 v.st, .int .i64 v.fo, .int .i64 v.pub, .slice da2 k dc2, .slice a2 (hn + 1) c2], rfl, hAt⟩ (fun hHeld => ?_)
            clear hK K
            try simp only [Act.put]
            refine tQ 5 rfl hHeld ?_
            refine wpAnyH_done (by kernel_rfl) ?_ _
            have hfin0 := (fun W hb hds => by rw [hX'.out, hsp.out]; exact ⟨da2, k, dc2, a2, (hn + 1), c2, none, 0, 0, rfl, hds, okF0, ds_nil W, by omega, hb, hxs.out, hyx.out, frs0 _ _ _ _⟩ : ∀ W, Below w.heap.size w W → VM W ⟨v.st, v.fo, v.pub, ds, nhs⟩ da2 k dc2 a2 (hn + 1) c2 → X (.returned (.tuple #[.agg #[.int .i64 v.st, .int .i64 v.fo, .int .i64 v.pub, .slice da2 k dc2, .slice a2 (hn + 1) c2], .agg (zrF).toArray, .int .i64 0])) W) _ hAt.bel hS5
            rw [hrf] at hfin0
            have hfin := Lib.hid hfin0
            have hB1 := Lib.hid hAt.bR
            have hB2 := Lib.hid hAt.bF
            have fi9 := zi
            clear hfin0 hAt hAs hHeld hAq hS1 hS2 hS3 hS4 hS5 hgs hgt
            go_wp2_with fail
            exact ret_cell_cell_tmp (fn := Tryz.f30) (p := 6) (q := 7) (u := 8) rfl hB1.out Tryz.underlying50 rfl sizeVw hB2.out Tryz.underlying53 rfl fi9.out rfl rfl rfl rfl hfin.out

           case refine_2 =>
            refine wp_buildSlice_run 48 1 _ rfl #[(0, .agg (hdC h).toArray)] (by simp only [List.map_toArray, List.map_cons, List.map_nil]; rfl) (hd_slice1 ok _) ?_
            have hba : Below w11.heap.size w11 (w11.drew.alloc (.cells (hdC h).toArray 36)) := (Below.refl _ w11).drew.alloc (Nat.le_refl _) _
            have hvBa : Blk (w11.drew.alloc (.cells (hdC h).toArray 36)) w11.heap.size 36 (hdC h) := Blk.new w11.drew _ _
            have hsza : (w11.drew.alloc (.cells (hdC h).toArray 36)).heap.size = w11.heap.size + 1 := World.size_alloc _ _
            refine hK.out _ _ ⟨hHeld.1.below ((Below.refl _ w11.drew).alloc (Nat.le_refl _) _), by obtain ⟨r, hr, hq⟩ := hHeld.2; exact ⟨r, hr, hq.below ((Below.refl _ w11.drew).alloc (Nat.le_refl _) _) hq.lt⟩⟩ (fun hHeld => ?_)
            clear hK K
            try simp only [Act.put, sA, s0, s1]
            generalize w11.drew.alloc _ = w12 at *
            refine tO 2 rfl (fun K hK => ?_)
            go_simp
            go_at_call 63
            refine (cloneH_any ha hn hc (hdRows v.hs) _ (H'.out.hs.below (w' := w12) (A11.out.bel.trans (hba.mono A11.out.bel.size))).reads (hdRows_one hoks.out) (by omega)).mono ?_
            rintro e w13 ⟨v1, rfl, hown13', hb12⟩
            have hown13 : w13.ownsRow w11.heap.size 36 37 v1 hn (hdRows v.hs) := Sl.owns_mono hown13' (by omega)
            have hb13 : Below w11.heap.size w11 w13 := hba.trans (hb12.mono hba.size)
            have hvB13 : Blk w13 w11.heap.size 36 (hdC h) := hvBa.below hb12 hvBa.lt
            have hvne : ∀ r, v1.ownBlock = some r → w11.heap.size ≠ r := fun r e => by have := (World.ownsRow.lt hown13' r e).1; omega
            refine hK.out _ _ ⟨hHeld.1.below hb12, by obtain ⟨r, hr, hq⟩ := hHeld.2; exact ⟨r, hr, hq.below hb12 hq.lt⟩⟩ (fun hHeld => ?_)
            clear hK K
            try simp only [Act.put, sA, s0, s1]
            skip
            refine tO 6 rfl (fun K hK => ?_)
            go_simp
            go_at_call 62
            refine (insertH_any w11.heap.size v1 hn ps (hdRows v.hs) (hdC h) w13 hown13 hpl (hdRows_one hoks.out) w11.heap.size hvB13 hvne (hdC_len ok) (hdC_r ok).one (by have := hb13.size; exact this) (by omega)).mono ?_
            rintro e w14 ⟨v2, rfl, hown14, hb14⟩
            rw [hdRows_ins hoks.out, hnhs.out, ← hnl] at hown14
            obtain ⟨a2, c2, rfl, hHS⟩ := hs_own hnok.out hown14 (by rw [hnl]; exact hhn)
            rw [hnl] at hHS hown14
            have hHS14 := Lib.hid hHS
            have hlo2 : Hid (∀ ad, a2 = some ad → w11.heap.size ≤ ad.block) := fun ad e => by
             obtain ⟨_, _, hv, _, h3⟩ := Sl.of_owns hown14
             cases hv
             exact (h3 ad e).1
            have hb14' : Below w11.heap.size w11 w14 := hb13.trans hb14
            have A14 := Lib.hid (A11.out.belowB hb14' (by have := A11.out.bF.lt; exact this))
            have hN14 := Lib.hid (hN11.out.below hb14' hN11.out.lt)
            have hX14 := Lib.hid (hX11.out.below hb14')
            rw [hnl]
            refine hK.out _ _ ⟨A14.out, _, rfl, hN14.out⟩ (fun hHeld => ?_)
            clear hK K
            try simp only [Act.put, sA, s0, s1]
            refine tQ 7 rfl hHeld ?_
            refine tQ 8 rfl hHeld ?_
            have m4 := hN14.out.at_ (i := 4) rfl
            have mf := hN14.out.frozen 4
            have hg15 : w14.grownBy (w14.setCell ⟨ts + 1, 4, none⟩ (.slice a2 (hn + 1) c2)) (some (ts + 1)) := grown_set (World.grownBy.refl w14 _) (.inl rfl) _
            have hN15 : Hid (Blk (w14.setCell ⟨ts + 1, 4, none⟩ (.slice a2 (hn + 1) c2)) (ts + 1) 93 [.int .i64 v.st, .int .i64 v.fo, .int .i64 v.pub, .slice da2 k dc2, .slice a2 (hn + 1) c2]) := hN14.out.set 4 _
            have A15 := Lib.hid (A14.out.far hg15 (by omega))
            have hne2 : ∀ ad, a2 = some ad → ad.block ≠ ts + 1 := fun ad e => by have := hlo2.out ad e; have := hN11.out.lt; omega
            have hVM15 : Hid (VM (w14.setCell ⟨ts + 1, 4, none⟩ (.slice a2 (hn + 1) c2)) ⟨v.st, v.fo, v.pub, ds, nhs⟩ da2 k dc2 a2 (hn + 1) c2) :=
             ⟨H'.out.st, H'.out.fo, H'.out.pub, hX14.out.grown hg15 (fun hp ad e => by have := hxg.out hp ad e; omega), hHS14.out.grown hg15 (fun _ => hne2), hlb⟩
            have hyx : Hid (Frz w hn ha a2 (hn + 1)) := fun _ ad e => .inl (Nat.le_trans A11.out.bel.size (hlo2.out ad e))
            have hyf2 : Hid (0 < hn + 1 → ∀ ad, a2 = some ad → ad.block < tb ∨ tb + 1 + 1 + 1 < ad.block) := fun _ ad e => .inr (by have := hlo2.out ad e; have := A11.out.bF.lt; omega)
            refine tO 9 rfl (fun K hK => ?_)
            go_simp
            refine hK.out _ _ ⟨A15.out, _, rfl, hN15.out⟩ (fun hHeld => ?_)
            clear hK K
            try simp only [Act.put, sA, s0, s1]
            refine wpAnyH_done (by kernel_rfl) ?_ _
            clear m4 mf hg15 hHeld
            generalize w14.setCell _ _ = w15 at *
            go_upto_region 26 with fail
            generalize hrf : zrF = rf at *
            refine wp_region_held_drew (S := fun wz => Blk wz (ts + 1) 93 [.int .i64 v.st, .int .i64 v.fo, .int .i64 v.pub, .slice da2 k dc2, .slice a2 (hn + 1) c2] ∧ VM wz ⟨v.st, v.fo, v.pub, ds, nhs⟩ da2 k dc2 a2 (hn + 1) c2 ∧ ∃ rR : List Value, rR.length = 5 ∧ AccB w tb [.int .i64 v.st, .int .i64 v.fo, .int .i64 v.pub, .slice da dn dc, .slice ha hn hc] (hdC h) rR (rf) wz) (by kernel_rfl) (⟨hN15.out, hVM15.out.below (Below.refl _ _).drew, zrV, rfl, A15.out.below (Below.refl _ _).drew⟩) (fun hHeld => ?_)
            refine tQ 0 rfl hHeld ?_
            refine tG 1 (v := ?_) rfl (Or.inl ⟨by rfl, ?_⟩) hHeld ?_
            rotate_left
            · intro wz hSw
              have q0 := hSw.1.at_ (i := 0) rfl
              have q1 := hSw.1.at_ (i := 1) rfl
              have q2 := hSw.1.at_ (i := 2) rfl
              have q3 := hSw.1.at_ (i := 3) rfl
              have q4 := hSw.1.at_ (i := 4) rfl
              go_simp
              all_goals (with_reducible rfl)
            try simp only [Act.put, sA, s0, s1]
            refine tY 2 rfl (tb + 1 + 1 + 1) 0 (rf) (fun wz h => (by obtain ⟨_, _, _, _, hA⟩ := h; exact hA.bF.range)) Tryz.underlying53 zi.out hHeld ?_
            obtain ⟨hS1, hS2, rR, hrR, hAq⟩ := id hHeld
            refine tO 3 rfl (fun K hK => ?_)
            refine wp_store_mid 50 _ _ rfl (tb + 1 + 1) 0 ([.int .i64 v.st, .int .i64 v.fo, .int .i64 v.pub, .slice da2 k dc2, .slice a2 (hn + 1) c2] : List Value).toArray (by rfl) (by rfl) (there_of hAq.bR (by rw [hrR]; rfl)) (by rw [List.size_toArray]; exact sizeVw) (by rw [List.all_toArray]; rfl) ?_
            have hAs := hAq.setR (r := [.int .i64 v.st, .int .i64 v.fo, .int .i64 v.pub, .slice da2 k dc2, .slice a2 (hn + 1) c2]) (by rw [hrR]; rfl)
            have hgs := (storedB hAq.bR (vs := [.int .i64 v.st, .int .i64 v.fo, .int .i64 v.pub, .slice da2 k dc2, .slice a2 (hn + 1) c2]) (by rw [hrR]; rfl)).grown
            have hS3 := hS2.grown hgs (fun hp ad e => by have := hxf.out hp ad e; omega) (fun hp ad e => by have := hyf2.out hp ad e; omega)
            have hS4 := hS1.grown hgs (fun e => by injection e with e; omega)
            refine hK.out _ _ ⟨hS4, hS3, [.int .i64 v.st, .int .i64 v.fo, .int .i64 v.pub, .slice da2 k dc2, .slice a2 (hn + 1) c2], rfl, hAs⟩ (fun hHeld => ?_)
            clear hK K
            try simp only [Act.put]
            refine tO 4 rfl (fun K hK => ?_)
            refine wp_store_mid 53 _ _ rfl (tb + 1 + 1 + 1) 0 (rf).toArray (by rfl) (by rfl) (there_of hAs.bF rfl) (by rw [List.size_toArray]; exact zi.out) (by simpa using zone.out) ?_
            have hAt := hAs.setF (r := rf) rfl
            have hgt := (storedB hAs.bF (vs := rf) rfl).grown
            have hS5 := hS3.grown hgt (fun hp ad e => by have := hxf.out hp ad e; omega) (fun hp ad e => by have := hyf2.out hp ad e; omega)
            refine hK.out _ _ ⟨hS4.grown hgt (fun e => by injection e with e; omega), hS5, [.int .i64 v.st, .int .i64 v.fo, .int .i64 v.pub, .slice da2 k dc2, .slice a2 (hn + 1) c2], rfl, hAt⟩ (fun hHeld => ?_)
            clear hK K
            try simp only [Act.put]
            refine tQ 5 rfl hHeld ?_
            refine wpAnyH_done (by kernel_rfl) ?_ _
            have hfin0 := (fun W hb hds => by rw [hX'.out, hsp.out]; exact ⟨da2, k, dc2, a2, (hn + 1), c2, none, 0, 0, rfl, hds, okF0, ds_nil W, by omega, hb, hxs.out, hyx.out, frs0 _ _ _ _⟩ : ∀ W, Below w.heap.size w W → VM W ⟨v.st, v.fo, v.pub, ds, nhs⟩ da2 k dc2 a2 (hn + 1) c2 → X (.returned (.tuple #[.agg #[.int .i64 v.st, .int .i64 v.fo, .int .i64 v.pub, .slice da2 k dc2, .slice a2 (hn + 1) c2], .agg (zrF).toArray, .int .i64 0])) W) _ hAt.bel hS5
            rw [hrf] at hfin0
            have hfin := Lib.hid hfin0
            have hB1 := Lib.hid hAt.bR
            have hB2 := Lib.hid hAt.bF
            have fi9 := zi
            clear hfin0 hAt hAs hHeld hAq hS1 hS2 hS3 hS4 hS5 hgs hgt
            go_wp2_with fail
            exact ret_cell_cell_tmp (fn := Tryz.f30) (p := 6) (q := 7) (u := 8) rfl hB1.out Tryz.underlying50 rfl sizeVw hB2.out Tryz.underlying53 rfl fi9.out rfl rfl rfl rfl hfin.out

       case neg =>
        have hcd : decide (dn ≤ k) = false := decide_eq_false hcmp
        have hci : decide ((dn : Int) ≤ (k : Int)) = false := decide_eq_false (by omega)
        have hacu := Lib.hid (accuse_any v da dn dc ha hn hc (some ⟨ts, 0, none⟩) 1 1 [h] W7 (HT'.out.below A7.out.bel) (H'.out.below A7.out.bel) hHS1.out)
        have hspec : Hid (accV v es h = if (accuse v [h]).2 then (v, (accuse v [h]).1, 321) else (⟨v.st, v.fo, v.pub, v.ds, insH h v.hs⟩, zeroF, 0)) := by
         show _ = _
         rw [hacc.out]
         unfold accD
         rw [if_neg (by rw [hdn, hfl]; exact hcmp)]
        obtain ⟨AC, hAC⟩ : ∃ AC, Hid (accuse v [h] = AC) := ⟨_, rfl⟩
        rw [hAC.out] at hacu hspec
        clear hAC hcmp hacc hhigh6
        have o0 := hBo7.out.at_ (i := 0) rfl
        have o1 := hBo7.out.at_ (i := 1) rfl
        have o2 := hBo7.out.at_ (i := 2) rfl
        have o3 := hBo7.out.at_ (i := 3) rfl
        have o4 := hBo7.out.at_ (i := 4) rfl
        go_wp2_with fail
        clear o0 o1 o2 o3 o4
        have hX7 : Hid (DS W7 da dn dc v.ds) := H'.out.ds.below A7.out.bel
        have hxs : Hid (Frz w dn da da dn) := frsE _ _ _
        have hxf : Hid (0 < dn → ∀ ad, da = some ad → ad.block < tb ∨ tb + 1 + 1 + 1 < ad.block) := fun hp ad e => .inl (by have := H'.out.ds.at_lt hp ad e; rw [htb.out] at this; exact this)
        have hxg : Hid (0 < dn → ∀ ad, da = some ad → ad.block ≠ ts + 1) := fun hp ad e => by have := H'.out.ds.at_lt hp ad e; rw [htb.out] at this; omega
        refine hacu.out.mono ?_
        rintro e w8 ⟨hcase, okf, hb8⟩
        have A8 := Lib.hid (A7.out.below hb8)
        have hN8 := Lib.hid (hN7'.out.below hb8 hN7'.out.lt)
        have hX8 := Lib.hid (hX7.out.below hb8)
        obtain ⟨f, b⟩ := AC
        simp only [] at hspec okf hcase
        have hcase' := Lib.hid hcase
        have okf' := Lib.hid okf
        clear hcase okf hb8 A7 hN7' hX7 hacu n0 n1 n2 n3 n4 b3 b4
        rcases hcase'.out with ⟨rfl, hfd, rfl⟩ | ⟨he, rfl⟩
        · skip
          have hfd' := Lib.hid hfd
          have hsp : Hid (accV v es h = (v, f, 321)) := by show _ = _; rw [hspec.out, if_pos rfl]
          have fi := infoF okf'.out da dn dc
          have fone := Lib.hid (forkC_one okf'.out da dn dc)
          obtain ⟨W9, hQ⟩ := put_row (ty := 53) A8.out.bF (x := forkC f da dn dc) (by rw [forkC_len okf'.out]; rfl) (by rw [forkC_len okf'.out]; exact sizeF) fone.out
          have A9 : Hid (AccB w tb [.int .i64 v.st, .int .i64 v.fo, .int .i64 v.pub, .slice da dn dc, .slice ha hn hc] (hdC h) zrV (forkC f da dn dc) W9) := by have := A8.out.setF (r := forkC f da dn dc) (by rw [forkC_len okf'.out]; rfl); rw [← hQ.eq] at this; exact this
          clear hfd
          have hN9 := Lib.hid (hN8.out.grown hQ.grown (fun e => by injection e with e; omega))
          have hX9 := Lib.hid (hX8.out.grown hQ.grown (fun hp ad e => by have := hxf.out hp ad e; omega))
          have hQ' := Lib.hid hQ
          have rfe : Hid (forkC f da dn dc = forkC f da dn dc) := rfl
          clear hQ A8 hN8 hX8 hspec hcase'
          generalize hrf : forkC f da dn dc = rf at hQ'
          go_upto_region 19 with (first
           | (refine wpList_store_mid (by rfl) 53 _ _ (by rfl) (tb + 1 + 1 + 1) 0 rf.toArray (by rfl) (by rfl) hQ'.out.there hQ'.out.info (by simpa using hQ'.out.one) ?_
              generalize hWq : World.setCells _ _ _ _ = Wa
              obtain rfl : W9 = Wa := by rw [← hWq]; exact hQ'.out.eq
              clear hWq))
          try simp only [Act.put]
          clear hQ' rfe
          subst hrf
          have b3 := A9.out.bV.at_ (i := 3) rfl
          have n3 := hN9.out.at_ (i := 3) rfl
          have nf := hN9.out.frozen 3
          go_upto_region 20 with fail
          clear b3 n3 nf
          have hg10 : W9.grownBy (W9.setCell ⟨ts + 1, 3, none⟩ (.slice da dn dc)) (some (ts + 1)) := grown_set (World.grownBy.refl W9 _) (.inl rfl) _
          have hN10 : Hid (Blk (W9.setCell ⟨ts + 1, 3, none⟩ (.slice da dn dc)) (ts + 1) 93 [.int .i64 v.st, .int .i64 v.fo, .int .i64 v.pub, .slice da dn dc, .slice (some ⟨ts, 0, none⟩) 1 1]) := hN9.out.set 3 _
          have A10 := Lib.hid (A9.out.far hg10 (by omega))
          have hX10 := Lib.hid (hX9.out.grown hg10 (fun hp ad e => by have := hxg.out hp ad e; omega))
          clear A9 hN9 hX9 hg10
          generalize W9.setCell _ _ = Wn at *
          have A9 := A10; have hN9 := hN10; have hX9 := hX10
          clear A10 hN10 hX10
          go_upto_region 21 with fail
          generalize hrf : forkC f da dn dc = rf at *
          refine wp_region_held_drew (S := fun wz => Blk wz tb 50 [.int .i64 v.st, .int .i64 v.fo, .int .i64 v.pub, .slice da dn dc, .slice ha hn hc] ∧ DS wz da dn dc v.ds ∧ ∃ rR : List Value, rR.length = 5 ∧ AccB w tb [.int .i64 v.st, .int .i64 v.fo, .int .i64 v.pub, .slice da dn dc, .slice ha hn hc] (hdC h) rR (rf) wz) (by kernel_rfl) (⟨A9.out.bV, hX9.out.below (Below.refl _ _).drew, zrV, rfl, A9.out.below (Below.refl _ _).drew⟩) (fun hHeld => ?_)
          refine tG 0 (v := ?_) rfl (Or.inl ⟨by rfl, ?_⟩) hHeld ?_
          rotate_left
          · intro wz hSw
            have q0 := hSw.1.at_ (i := 0) rfl
            have q1 := hSw.1.at_ (i := 1) rfl
            have q2 := hSw.1.at_ (i := 2) rfl
            have q3 := hSw.1.at_ (i := 3) rfl
            have q4 := hSw.1.at_ (i := 4) rfl
            go_simp
            all_goals (with_reducible rfl)
          try simp only [Act.put, sA, s0, s1]
          refine tY 1 rfl (tb + 1 + 1 + 1) 0 (rf) (fun wz h => (by obtain ⟨_, _, _, _, hA⟩ := h; exact hA.bF.range)) Tryz.underlying53 fi.out hHeld ?_
          obtain ⟨hS1, hS2, rR, hrR, hAq⟩ := id hHeld
          refine tO 2 rfl (fun K hK => ?_)
          refine wp_store_mid 50 _ _ rfl (tb + 1 + 1) 0 ([.int .i64 v.st, .int .i64 v.fo, .int .i64 v.pub, .slice da dn dc, .slice ha hn hc] : List Value).toArray (by rfl) (by rfl) (there_of hAq.bR (by rw [hrR]; rfl)) (by rw [List.size_toArray]; exact sizeVw) (by rw [List.all_toArray]; rfl) ?_
          have hAs := hAq.setR (r := [.int .i64 v.st, .int .i64 v.fo, .int .i64 v.pub, .slice da dn dc, .slice ha hn hc]) (by rw [hrR]; rfl)
          have hgs := (storedB hAq.bR (vs := [.int .i64 v.st, .int .i64 v.fo, .int .i64 v.pub, .slice da dn dc, .slice ha hn hc]) (by rw [hrR]; rfl)).grown
          have hS3 := hS2.grown hgs (fun hp ad e => by have := hxf.out hp ad e; omega)
          have hS4 := hS1.grown hgs (fun e => by injection e with e; omega)
          refine hK.out _ _ ⟨hS4, hS3, [.int .i64 v.st, .int .i64 v.fo, .int .i64 v.pub, .slice da dn dc, .slice ha hn hc], rfl, hAs⟩ (fun hHeld => ?_)
          clear hK K
          try simp only [Act.put]
          refine tO 3 rfl (fun K hK => ?_)
          refine wp_store_mid 53 _ _ rfl (tb + 1 + 1 + 1) 0 (rf).toArray (by rfl) (by rfl) (there_of hAs.bF rfl) (by rw [List.size_toArray]; exact fi.out) (by simpa using fone.out) ?_
          have hAt := hAs.setF (r := rf) rfl
          have hgt := (storedB hAs.bF (vs := rf) rfl).grown
          have hS5 := hS3.grown hgt (fun hp ad e => by have := hxf.out hp ad e; omega)
          refine hK.out _ _ ⟨hS4.grown hgt (fun e => by injection e with e; omega), hS5, [.int .i64 v.st, .int .i64 v.fo, .int .i64 v.pub, .slice da dn dc, .slice ha hn hc], rfl, hAt⟩ (fun hHeld => ?_)
          clear hK K
          try simp only [Act.put]
          refine tQ 4 rfl hHeld ?_
          refine wpAnyH_done (by kernel_rfl) ?_ _
          have hfin0 := (fun W hb hds => by rw [hX'.out, hsp.out]; exact ⟨da, dn, dc, ha, hn, hc, da, dn, dc, rfl, H'.out.below hb, okf'.out, by rw [hfd'.out]; exact hds, hbd, hb, frsE _ _ _, frsE _ _ _, hxs.out⟩ : ∀ W, Below w.heap.size w W → DS W da dn dc v.ds → X (.returned (.tuple #[.agg #[.int .i64 v.st, .int .i64 v.fo, .int .i64 v.pub, .slice da dn dc, .slice ha hn hc], .agg (forkC f da dn dc).toArray, .int .i64 321])) W) _ hAt.bel hS5
          rw [hrf] at hfin0
          have hfin := Lib.hid hfin0
          have hB1 := Lib.hid hAt.bR
          have hB2 := Lib.hid hAt.bF
          have fi9 := fi
          clear hfin0 hAt hAs hHeld hAq hS1 hS2 hS3 hS4 hS5 hgs hgt
          go_wp2_with fail
          exact ret_cell_cell_tmp (fn := Tryz.f30) (p := 6) (q := 7) (u := 8) rfl hB1.out Tryz.underlying50 rfl sizeVw hB2.out Tryz.underlying53 rfl fi9.out rfl rfl rfl rfl hfin.out
        · skip
          injection he with he1 he2
          subst he1 he2
          have hsp : Hid (accV v es h = (⟨v.st, v.fo, v.pub, v.ds, insH h v.hs⟩, zeroF, 0)) := by show _ = _; rw [hspec.out]; rfl
          obtain ⟨W9, hQ⟩ := put_row (ty := 53) A8.out.bF (x := zrF) rfl sizeF zone.out
          have A9 : Hid (AccB w tb [.int .i64 v.st, .int .i64 v.fo, .int .i64 v.pub, .slice da dn dc, .slice ha hn hc] (hdC h) zrV (zrF) W9) := by have := A8.out.setF (r := zrF) rfl; rw [← hQ.eq] at this; exact this
          have hN9 := Lib.hid (hN8.out.grown hQ.grown (fun e => by injection e with e; omega))
          have hX9 := Lib.hid (hX8.out.grown hQ.grown (fun hp ad e => by have := hxf.out hp ad e; omega))
          have hQ' := Lib.hid hQ
          have rfe : Hid (zrF = zrF) := rfl
          clear hQ A8 hN8 hX8 hspec hcase'
          generalize hrf : zrF = rf at hQ'
          go_upto_region 19 with (first
           | (refine wpList_store_mid (by rfl) 53 _ _ (by rfl) (tb + 1 + 1 + 1) 0 rf.toArray (by rfl) (by rfl) hQ'.out.there hQ'.out.info (by simpa using hQ'.out.one) ?_
              generalize hWq : World.setCells _ _ _ _ = Wa
              obtain rfl : W9 = Wa := by rw [← hWq]; exact hQ'.out.eq
              clear hWq))
          try simp only [Act.put]
          clear hQ' rfe
          subst hrf
          have b3 := A9.out.bV.at_ (i := 3) rfl
          have n3 := hN9.out.at_ (i := 3) rfl
          have nf := hN9.out.frozen 3
          go_upto_region 20 with fail
          clear b3 n3 nf
          have hg10 : W9.grownBy (W9.setCell ⟨ts + 1, 3, none⟩ (.slice da dn dc)) (some (ts + 1)) := grown_set (World.grownBy.refl W9 _) (.inl rfl) _
          have hN10 : Hid (Blk (W9.setCell ⟨ts + 1, 3, none⟩ (.slice da dn dc)) (ts + 1) 93 [.int .i64 v.st, .int .i64 v.fo, .int .i64 v.pub, .slice da dn dc, .slice (some ⟨ts, 0, none⟩) 1 1]) := hN9.out.set 3 _
          have A10 := Lib.hid (A9.out.far hg10 (by omega))
          have hX10 := Lib.hid (hX9.out.grown hg10 (fun hp ad e => by have := hxg.out hp ad e; omega))
          clear A9 hN9 hX9 hg10
          generalize W9.setCell _ _ = Wn at *
          have A9 := A10; have hN9 := hN10; have hX9 := hX10
          clear A10 hN10 hX10
          have b4 := A9.out.bV.at_ (i := 4) rfl
          have n4 := hN9.out.at_ (i := 4) rfl
          have nf := hN9.out.frozen 4
          go_upto_region 23 with fail
          clear b4 n4 nf
          have hg10 : Wn.grownBy (Wn.setCell ⟨ts + 1, 4, none⟩ (.slice ha hn hc)) (some (ts + 1)) := grown_set (World.grownBy.refl Wn _) (.inl rfl) _
          have hN10 : Hid (Blk (Wn.setCell ⟨ts + 1, 4, none⟩ (.slice ha hn hc)) (ts + 1) 93 [.int .i64 v.st, .int .i64 v.fo, .int .i64 v.pub, .slice da dn dc, .slice ha hn hc]) := hN9.out.set 4 _
          have A10 := Lib.hid (A9.out.far hg10 (by omega))
          have hX10 := Lib.hid (hX9.out.grown hg10 (fun hp ad e => by have := hxg.out hp ad e; omega))
          clear A9 hN9 hX9 hg10
          generalize Wn.setCell _ _ = w10 at *
          have b4 := A10.out.bV.at_ (i := 4) rfl
          have c2 := A10.out.bH.at_ (hdC_2 h)
          have hbsf := Lib.hid (bsfH_any ha hn hc v.hs h.no w10 (H'.out.hs.below A10.out.bel) hOk.out.up ⟨by rw [hno'.out]; omega, by rw [hno'.out]; omega⟩ hnos.out)
          go_wp2_with fail
          refine hbsf.out.mono ?_
          rintro e w11 ⟨rfl, hb11⟩
          have A11 := Lib.hid (A10.out.below hb11)
          have hN11 := Lib.hid (hN10.out.below hb11 hN10.out.lt)
          have hX11 := Lib.hid (hX10.out.below hb11)
          clear b4 c2 hbsf hb11 A10 hN10 hX10
          obtain ⟨hb, hhb⟩ : ∃ hb, Hid (hasH h.no v.hs = hb) := ⟨_, rfl⟩
          rw [hhb.out]
          cases hb with
          | true =>
           have hins : insH h v.hs = v.hs := Vw.insH_has' hhb.out
           have hVM : Hid (VM w11 ⟨v.st, v.fo, v.pub, v.ds, v.hs⟩ da dn dc ha hn hc) := ⟨H'.out.st, H'.out.fo, H'.out.pub, hX11.out, H'.out.hs.below A11.out.bel, hbd⟩
           rw [hins] at hsp
           go_upto_region 26 with fail
           generalize hrf : zrF = rf at *
           refine wp_region_held_drew (S := fun wz => Blk wz (ts + 1) 93 [.int .i64 v.st, .int .i64 v.fo, .int .i64 v.pub, .slice da dn dc, .slice ha hn hc] ∧ VM wz ⟨v.st, v.fo, v.pub, v.ds, v.hs⟩ da dn dc ha hn hc ∧ ∃ rR : List Value, rR.length = 5 ∧ AccB w tb [.int .i64 v.st, .int .i64 v.fo, .int .i64 v.pub, .slice da dn dc, .slice ha hn hc] (hdC h) rR (rf) wz) (by kernel_rfl) (⟨hN11.out, hVM.out.below (Below.refl _ _).drew, zrV, rfl, A11.out.below (Below.refl _ _).drew⟩) (fun hHeld => ?_)
           refine tQ 0 rfl hHeld ?_
           refine tG 1 (v := ?_) rfl (Or.inl ⟨by rfl, ?_⟩) hHeld ?_
           rotate_left
           · intro wz hSw
             have q0 := hSw.1.at_ (i := 0) rfl
             have q1 := hSw.1.at_ (i := 1) rfl
             have q2 := hSw.1.at_ (i := 2) rfl
             have q3 := hSw.1.at_ (i := 3) rfl
             have q4 := hSw.1.at_ (i := 4) rfl
             go_simp
             all_goals (with_reducible rfl)
           try simp only [Act.put, sA, s0, s1]
           refine tY 2 rfl (tb + 1 + 1 + 1) 0 (rf) (fun wz h => (by obtain ⟨_, _, _, _, hA⟩ := h; exact hA.bF.range)) Tryz.underlying53 zi.out hHeld ?_
           obtain ⟨hS1, hS2, rR, hrR, hAq⟩ := id hHeld
           refine tO 3 rfl (fun K hK => ?_)
           refine wp_store_mid 50 _ _ rfl (tb + 1 + 1) 0 ([.int .i64 v.st, .int .i64 v.fo, .int .i64 v.pub, .slice da dn dc, .slice ha hn hc] : List Value).toArray (by rfl) (by rfl) (there_of hAq.bR (by rw [hrR]; rfl)) (by rw [List.size_toArray]; exact sizeVw) (by rw [List.all_toArray]; rfl) ?_
           have hAs := hAq.setR (r := [.int .i64 v.st, .int .i64 v.fo, .int .i64 v.pub, .slice da dn dc, .slice ha hn hc]) (by rw [hrR]; rfl)
           have hgs := (storedB hAq.bR (vs := [.int .i64 v.st, .int .i64 v.fo, .int .i64 v.pub, .slice da dn dc, .slice ha hn hc]) (by rw [hrR]; rfl)).grown
           have hS3 := hS2.grown hgs (fun hp ad e => by have := hxf.out hp ad e; omega) (fun hp ad e => by have := hyf.out hp ad e; omega)
           have hS4 := hS1.grown hgs (fun e => by injection e with e; omega)
           refine hK.out _ _ ⟨hS4, hS3, [.int .i64 v.st, .int .i64 v.fo, .int .i64 v.pub, .slice da dn dc, .slice ha hn hc], rfl, hAs⟩ (fun hHeld => ?_)
           clear hK K
           try simp only [Act.put]
           refine tO 4 rfl (fun K hK => ?_)
           refine wp_store_mid 53 _ _ rfl (tb + 1 + 1 + 1) 0 (rf).toArray (by rfl) (by rfl) (there_of hAs.bF rfl) (by rw [List.size_toArray]; exact zi.out) (by simpa using zone.out) ?_
           have hAt := hAs.setF (r := rf) rfl
           have hgt := (storedB hAs.bF (vs := rf) rfl).grown
           have hS5 := hS3.grown hgt (fun hp ad e => by have := hxf.out hp ad e; omega) (fun hp ad e => by have := hyf.out hp ad e; omega)
           refine hK.out _ _ ⟨hS4.grown hgt (fun e => by injection e with e; omega), hS5, [.int .i64 v.st, .int .i64 v.fo, .int .i64 v.pub, .slice da dn dc, .slice ha hn hc], rfl, hAt⟩ (fun hHeld => ?_)
           clear hK K
           try simp only [Act.put]
           refine tQ 5 rfl hHeld ?_
           refine wpAnyH_done (by kernel_rfl) ?_ _
           have hfin0 := (fun W hb hds => by rw [hX'.out, hsp.out]; exact ⟨da, dn, dc, ha, hn, hc, none, 0, 0, rfl, hds, okF0, ds_nil W, by omega, hb, hxs.out, frsE _ _ _, frs0 _ _ _ _⟩ : ∀ W, Below w.heap.size w W → VM W ⟨v.st, v.fo, v.pub, v.ds, v.hs⟩ da dn dc ha hn hc → X (.returned (.tuple #[.agg #[.int .i64 v.st, .int .i64 v.fo, .int .i64 v.pub, .slice da dn dc, .slice ha hn hc], .agg (zrF).toArray, .int .i64 0])) W) _ hAt.bel hS5
           rw [hrf] at hfin0
           have hfin := Lib.hid hfin0
           have hB1 := Lib.hid hAt.bR
           have hB2 := Lib.hid hAt.bF
           have fi9 := zi
           clear hfin0 hAt hAs hHeld hAq hS1 hS2 hS3 hS4 hS5 hgs hgt
           go_wp2_with fail
           exact ret_cell_cell_tmp (fn := Tryz.f30) (p := 6) (q := 7) (u := 8) rfl hB1.out Tryz.underlying50 rfl sizeVw hB2.out Tryz.underlying53 rfl fi9.out rfl rfl rfl rfl hfin.out
          | false =>
           have hins : insH h v.hs = v.hs.take (posH h.no v.hs) ++ [h] ++ v.hs.drop (posH h.no v.hs) := Vw.insH_new' hhb.out
           obtain ⟨ps, hps⟩ : ∃ ps, Hid (posH h.no v.hs = ps) := ⟨_, rfl⟩
           have hpl : ps ≤ hn := by rw [← hps.out]; have := Vw.posH_le h.no v.hs; have := H'.out.hs.rs.len; omega
           rw [hps.out] at hins ⊢
           obtain ⟨nhs, hnhs⟩ : ∃ nhs, Hid (v.hs.take ps ++ [h] ++ v.hs.drop ps = nhs) := ⟨_, rfl⟩
           rw [hnhs.out] at hins
           rw [hins] at hsp
           have hnl : nhs.length = hn + 1 := by rw [← hnhs.out]; have := H'.out.hs.rs.len; simp; omega
           have hnok : Hid (∀ x ∈ nhs, OkH x) := fun x hx => by
            rw [← hnhs.out] at hx
            rcases List.mem_append.1 hx with hx | hx
            · rcases List.mem_append.1 hx with hx | hx
              · exact H'.out.hs.ok (List.mem_of_mem_take hx)
              · rw [List.mem_singleton] at hx; rw [hx]; exact ok
            · exact H'.out.hs.ok (List.mem_of_mem_drop hx)
           have hHw := Lib.hid (H'.out.hs.below A11.out.bel)
           have hoks := Lib.hid H'.out.hs.oks
           have hbs := fun W => hd_slice1 ok W
           have hri := infoHd ok
           go_upto_region 25 with fail
           clear hbs
           refine wp_region_held_drew (S := fun wz => AccB w tb [.int .i64 v.st, .int .i64 v.fo, .int .i64 v.pub, .slice da dn dc, .slice ha hn hc] (hdC h) zrV zrF wz ∧ ∃ r : List Value, r.length = 5 ∧ Blk wz (ts + 1) 93 r) (by kernel_rfl) (⟨A11.out.below (Below.refl _ _).drew, _, rfl, hN11.out⟩) (fun hHeld => ?_)
           refine tQ 0 rfl hHeld ?_
           refine tX 1 rfl (fun wz hSw => hSw.1.bV.at_ (i := 4) rfl) hHeld ?_
           refine tQ 3 rfl hHeld ?_
           refine tY 4 rfl (tb + 1) 0 (hdC h) (fun wz h => h.1.bH.range) Tryz.underlying36 hri.out hHeld ?_
           refine rd (rs := [2, 5]) ?_
           refine tR rfl (fun K hK => ?_) (tR rfl (fun K hK => ?_) rn)
           case refine_1 =>
            go_simp
            go_at_call 63
            refine (cloneH_any ha hn hc (hdRows v.hs) _ (H'.out.hs.below (w' := w11.drew) A11.out.bel.drew).reads (hdRows_one hoks.out) (by omega)).mono ?_
            rintro e w12 ⟨v1, rfl, hown12, hb12⟩
            refine hK.out _ _ ⟨hHeld.1.below hb12, by obtain ⟨r, hr, hq⟩ := hHeld.2; exact ⟨r, hr, hq.below hb12 hq.lt⟩⟩ (fun hHeld => ?_)
            clear hK K
            try simp only [Act.put, sA, s0, s1]
            refine tO 5 rfl (fun K hK => ?_)
            refine wp_buildSlice_run 48 1 _ rfl #[(0, .agg (hdC h).toArray)] (by simp only [List.map_toArray, List.map_cons, List.map_nil]; rfl) (hd_slice1 ok _) ?_
            have hb13 : Below w11.heap.size w11 (w12.alloc (.cells (hdC h).toArray 36)) := ((Below.refl _ w11).drew.trans hb12).alloc hb12.size _
            have hvB13 : Blk (w12.alloc (.cells (hdC h).toArray 36)) w12.heap.size 36 (hdC h) := Blk.new w12 _ _
            have hown13 : (w12.alloc (.cells (hdC h).toArray 36)).ownsRow w11.heap.size 36 37 v1 hn (hdRows v.hs) := World.ownsRow.alloc hown12 _
            have hvne : ∀ r, v1.ownBlock = some r → w12.heap.size ≠ r := fun r e => by have := (World.ownsRow.lt hown12 r e).2; omega
            refine hK.out _ _ ⟨hHeld.1.below ((Below.refl _ w12).alloc (Nat.le_refl _) _), by obtain ⟨r, hr, hq⟩ := hHeld.2; exact ⟨r, hr, hq.below ((Below.refl _ w12).alloc (Nat.le_refl _) _) hq.lt⟩⟩ (fun hHeld => ?_)
            clear hK K
            try simp only [Act.put, sA, s0, s1]
            obtain ⟨vb, hvb2⟩ : ∃ vb, w12.heap.size = vb := ⟨_, rfl⟩
            rw [hvb2] at hvB13 hvne ⊢
            generalize w12.alloc _ = w13 at *
            refine tO 6 rfl (fun K hK => ?_)
            go_simp
            go_at_call 62
            refine (insertH_any w11.heap.size v1 hn ps (hdRows v.hs) (hdC h) w13 hown13 hpl (hdRows_one hoks.out) vb hvB13 hvne (hdC_len ok) (hdC_r ok).one (by have := hb13.size; exact this) (by omega)).mono ?_
            rintro e w14 ⟨v2, rfl, hown14, hb14⟩
            rw [hdRows_ins hoks.out, hnhs.out, ← hnl] at hown14
            obtain ⟨a2, c2, rfl, hHS⟩ := hs_own hnok.out hown14 (by rw [hnl]; exact hhn)
            rw [hnl] at hHS hown14
            have hHS14 := Lib.hid hHS
            have hlo2 : Hid (∀ ad, a2 = some ad → w11.heap.size ≤ ad.block) := fun ad e => by
             obtain ⟨_, _, hv, _, h3⟩ := Sl.of_owns hown14
             cases hv
             exact (h3 ad e).1
            have hb14' : Below w11.heap.size w11 w14 := hb13.trans hb14
            have A14 := Lib.hid (A11.out.belowB hb14' (by have := A11.out.bF.lt; exact this))
            have hN14 := Lib.hid (hN11.out.below hb14' hN11.out.lt)
            have hX14 := Lib.hid (hX11.out.below hb14')
            rw [hnl]
            refine hK.out _ _ ⟨A14.out, _, rfl, hN14.out⟩ (fun hHeld => ?_)
            clear hK K
            try simp only [Act.put, sA, s0, s1]
            refine tQ 7 rfl hHeld ?_
            refine tQ 8 rfl hHeld ?_
            have m4 := hN14.out.at_ (i := 4) rfl
            have mf := hN14.out.frozen 4
            have hg15 : w14.grownBy (w14.setCell ⟨ts + 1, 4, none⟩ (.slice a2 (hn + 1) c2)) (some (ts + 1)) := grown_set (World.grownBy.refl w14 _) (.inl rfl) _
            have hN15 : Hid (Blk (w14.setCell ⟨ts + 1, 4, none⟩ (.slice a2 (hn + 1) c2)) (ts + 1) 93 [.int .i64 v.st, .int .i64 v.fo, .int .i64 v.pub, .slice da dn dc, .slice a2 (hn + 1) c2]) := hN14.out.set 4 _
            have A15 := Lib.hid (A14.out.far hg15 (by omega))
            have hne2 : ∀ ad, a2 = some ad → ad.block ≠ ts + 1 := fun ad e => by have := hlo2.out ad e; have := hN11.out.lt; omega
            have hVM15 : Hid (VM (w14.setCell ⟨ts + 1, 4, none⟩ (.slice a2 (hn + 1) c2)) ⟨v.st, v.fo, v.pub, v.ds, nhs⟩ da dn dc a2 (hn + 1) c2) :=
             ⟨H'.out.st, H'.out.fo, H'.out.pub, hX14.out.grown hg15 (fun hp ad e => by have := hxg.out hp ad e; omega), hHS14.out.grown hg15 (fun _ => hne2), hbd⟩
            have hyx : Hid (Frz w hn ha a2 (hn + 1)) := fun _ ad e => .inl (Nat.le_trans A11.out.bel.size (hlo2.out ad e))
            have hyf2 : Hid (0 < hn + 1 → ∀ ad, a2 = some ad → ad.block < tb ∨ tb + 1 + 1 + 1 < ad.block) := fun _ ad e => .inr (by have := hlo2.out ad e; have := A11.out.bF.lt; omega)
            refine tO 9 rfl (fun K hK => ?_)
            go_simp
            refine hK.out _ _ ⟨A15.out, _, rfl, hN15.out⟩ (fun hHeld => ?_)
            clear hK K
            try simp only [Act.put, sA, s0, s1]
            refine wpAnyH_done (by kernel_rfl) ?_ _
            clear m4 mf hg15 hHeld
            generalize w14.setCell _ _ = w15 at *
            go_upto_region 26 with fail
            generalize hrf : zrF = rf at *
            refine wp_region_held_drew (S := fun wz => Blk wz (ts + 1) 93 [.int .i64 v.st, .int .i64 v.fo, .int .i64 v.pub, .slice da dn dc, .slice a2 (hn + 1) c2] ∧ VM wz ⟨v.st, v.fo, v.pub, v.ds, nhs⟩ da dn dc a2 (hn + 1) c2 ∧ ∃ rR : List Value, rR.length = 5 ∧ AccB w tb [.int .i64 v.st, .int .i64 v.fo, .int .i64 v.pub, .slice da dn dc, .slice ha hn hc] (hdC h) rR (rf) wz) (by kernel_rfl) (⟨hN15.out, hVM15.out.below (Below.refl _ _).drew, zrV, rfl, A15.out.below (Below.refl _ _).drew⟩) (fun hHeld => ?_)
            refine tQ 0 rfl hHeld ?_
            refine tG 1 (v := ?_) rfl (Or.inl ⟨by rfl, ?_⟩) hHeld ?_
            rotate_left
            · intro wz hSw
              have q0 := hSw.1.at_ (i := 0) rfl
              have q1 := hSw.1.at_ (i := 1) rfl
              have q2 := hSw.1.at_ (i := 2) rfl
              have q3 := hSw.1.at_ (i := 3) rfl
              have q4 := hSw.1.at_ (i := 4) rfl
              go_simp
              all_goals (with_reducible rfl)
            try simp only [Act.put, sA, s0, s1]
            refine tY 2 rfl (tb + 1 + 1 + 1) 0 (rf) (fun wz h => (by obtain ⟨_, _, _, _, hA⟩ := h; exact hA.bF.range)) Tryz.underlying53 zi.out hHeld ?_
            obtain ⟨hS1, hS2, rR, hrR, hAq⟩ := id hHeld
            refine tO 3 rfl (fun K hK => ?_)
            refine wp_store_mid 50 _ _ rfl (tb + 1 + 1) 0 ([.int .i64 v.st, .int .i64 v.fo, .int .i64 v.pub, .slice da dn dc, .slice a2 (hn + 1) c2] : List Value).toArray (by rfl) (by rfl) (there_of hAq.bR (by rw [hrR]; rfl)) (by rw [List.size_toArray]; exact sizeVw) (by rw [List.all_toArray]; rfl) ?_
            have hAs := hAq.setR (r := [.int .i64 v.st, .int .i64 v.fo, .int .i64 v.pub, .slice da dn dc, .slice a2 (hn + 1) c2]) (by rw [hrR]; rfl)
            have hgs := (storedB hAq.bR (vs := [.int .i64 v.st, .int .i64 v.fo, .int .i64 v.pub, .slice da dn dc, .slice a2 (hn + 1) c2]) (by rw [hrR]; rfl)).grown
            have hS3 := hS2.grown hgs (fun hp ad e => by have := hxf.out hp ad e; omega) (fun hp ad e => by have := hyf2.out hp ad e; omega)
            have hS4 := hS1.grown hgs (fun e => by injection e with e; omega)
            refine hK.out _ _ ⟨hS4, hS3, [.int .i64 v.st, .int .i64 v.fo, .int .i64 v.pub, .slice da dn dc, .slice a2 (hn + 1) c2], rfl, hAs⟩ (fun hHeld => ?_)
            clear hK K
            try simp only [Act.put]
            refine tO 4 rfl (fun K hK => ?_)
            refine wp_store_mid 53 _ _ rfl (tb + 1 + 1 + 1) 0 (rf).toArray (by rfl) (by rfl) (there_of hAs.bF rfl) (by rw [List.size_toArray]; exact zi.out) (by simpa using zone.out) ?_
            have hAt := hAs.setF (r := rf) rfl
            have hgt := (storedB hAs.bF (vs := rf) rfl).grown
            have hS5 := hS3.grown hgt (fun hp ad e => by have := hxf.out hp ad e; omega) (fun hp ad e => by have := hyf2.out hp ad e; omega)
            refine hK.out _ _ ⟨hS4.grown hgt (fun e => by injection e with e; omega), hS5, [.int .i64 v.st, .int .i64 v.fo, .int .i64 v.pub, .slice da dn dc, .slice a2 (hn + 1) c2], rfl, hAt⟩ (fun hHeld => ?_)
            clear hK K
            try simp only [Act.put]
            refine tQ 5 rfl hHeld ?_
            refine wpAnyH_done (by kernel_rfl) ?_ _
            have hfin0 := (fun W hb hds => by rw [hX'.out, hsp.out]; exact ⟨da, dn, dc, a2, (hn + 1), c2, none, 0, 0, rfl, hds, okF0, ds_nil W, by omega, hb, hxs.out, hyx.out, frs0 _ _ _ _⟩ : ∀ W, Below w.heap.size w W → VM W ⟨v.st, v.fo, v.pub, v.ds, nhs⟩ da dn dc a2 (hn + 1) c2 → X (.returned (.tuple #[.agg #[.int .i64 v.st, .int .i64 v.fo, .int .i64 v.pub, .slice da dn dc, .slice a2 (hn + 1) c2], .agg (zrF).toArray, .int .i64 0])) W) _ hAt.bel hS5
            rw [hrf] at hfin0
            have hfin := Lib.hid hfin0
            have hB1 := Lib.hid hAt.bR
            have hB2 := Lib.hid hAt.bF
            have fi9 := zi
            clear hfin0 hAt hAs hHeld hAq hS1 hS2 hS3 hS4 hS5 hgs hgt
            go_wp2_with fail
            exact ret_cell_cell_tmp (fn := Tryz.f30) (p := 6) (q := 7) (u := 8) rfl hB1.out Tryz.underlying50 rfl sizeVw hB2.out Tryz.underlying53 rfl fi9.out rfl rfl rfl rfl hfin.out

           case refine_2 =>
            refine wp_buildSlice_run 48 1 _ rfl #[(0, .agg (hdC h).toArray)] (by simp only [List.map_toArray, List.map_cons, List.map_nil]; rfl) (hd_slice1 ok _) ?_
            have hba : Below w11.heap.size w11 (w11.drew.alloc (.cells (hdC h).toArray 36)) := (Below.refl _ w11).drew.alloc (Nat.le_refl _) _
            have hvBa : Blk (w11.drew.alloc (.cells (hdC h).toArray 36)) w11.heap.size 36 (hdC h) := Blk.new w11.drew _ _
            have hsza : (w11.drew.alloc (.cells (hdC h).toArray 36)).heap.size = w11.heap.size + 1 := World.size_alloc _ _
            refine hK.out _ _ ⟨hHeld.1.below ((Below.refl _ w11.drew).alloc (Nat.le_refl _) _), by obtain ⟨r, hr, hq⟩ := hHeld.2; exact ⟨r, hr, hq.below ((Below.refl _ w11.drew).alloc (Nat.le_refl _) _) hq.lt⟩⟩ (fun hHeld => ?_)
            clear hK K
            try simp only [Act.put, sA, s0, s1]
            generalize w11.drew.alloc _ = w12 at *
            refine tO 2 rfl (fun K hK => ?_)
            go_simp
            go_at_call 63
            refine (cloneH_any ha hn hc (hdRows v.hs) _ (H'.out.hs.below (w' := w12) (A11.out.bel.trans (hba.mono A11.out.bel.size))).reads (hdRows_one hoks.out) (by omega)).mono ?_
            rintro e w13 ⟨v1, rfl, hown13', hb12⟩
            have hown13 : w13.ownsRow w11.heap.size 36 37 v1 hn (hdRows v.hs) := Sl.owns_mono hown13' (by omega)
            have hb13 : Below w11.heap.size w11 w13 := hba.trans (hb12.mono hba.size)
            have hvB13 : Blk w13 w11.heap.size 36 (hdC h) := hvBa.below hb12 hvBa.lt
            have hvne : ∀ r, v1.ownBlock = some r → w11.heap.size ≠ r := fun r e => by have := (World.ownsRow.lt hown13' r e).1; omega
            refine hK.out _ _ ⟨hHeld.1.below hb12, by obtain ⟨r, hr, hq⟩ := hHeld.2; exact ⟨r, hr, hq.below hb12 hq.lt⟩⟩ (fun hHeld => ?_)
            clear hK K
            try simp only [Act.put, sA, s0, s1]
            skip
            refine tO 6 rfl (fun K hK => ?_)
            go_simp
            go_at_call 62
            refine (insertH_any w11.heap.size v1 hn ps (hdRows v.hs) (hdC h) w13 hown13 hpl (hdRows_one hoks.out) w11.heap.size hvB13 hvne (hdC_len ok) (hdC_r ok).one (by have := hb13.size; exact this) (by omega)).mono ?_
            rintro e w14 ⟨v2, rfl, hown14, hb14⟩
            rw [hdRows_ins hoks.out, hnhs.out, ← hnl] at hown14
            obtain ⟨a2, c2, rfl, hHS⟩ := hs_own hnok.out hown14 (by rw [hnl]; exact hhn)
            rw [hnl] at hHS hown14
            have hHS14 := Lib.hid hHS
            have hlo2 : Hid (∀ ad, a2 = some ad → w11.heap.size ≤ ad.block) := fun ad e => by
             obtain ⟨_, _, hv, _, h3⟩ := Sl.of_owns hown14
             cases hv
             exact (h3 ad e).1
            have hb14' : Below w11.heap.size w11 w14 := hb13.trans hb14
            have A14 := Lib.hid (A11.out.belowB hb14' (by have := A11.out.bF.lt; exact this))
            have hN14 := Lib.hid (hN11.out.below hb14' hN11.out.lt)
            have hX14 := Lib.hid (hX11.out.below hb14')
            rw [hnl]
            refine hK.out _ _ ⟨A14.out, _, rfl, hN14.out⟩ (fun hHeld => ?_)
            clear hK K
            try simp only [Act.put, sA, s0, s1]
            refine tQ 7 rfl hHeld ?_
            refine tQ 8 rfl hHeld ?_
            have m4 := hN14.out.at_ (i := 4) rfl
            have mf := hN14.out.frozen 4
            have hg15 : w14.grownBy (w14.setCell ⟨ts + 1, 4, none⟩ (.slice a2 (hn + 1) c2)) (some (ts + 1)) := grown_set (World.grownBy.refl w14 _) (.inl rfl) _
            have hN15 : Hid (Blk (w14.setCell ⟨ts + 1, 4, none⟩ (.slice a2 (hn + 1) c2)) (ts + 1) 93 [.int .i64 v.st, .int .i64 v.fo, .int .i64 v.pub, .slice da dn dc, .slice a2 (hn + 1) c2]) := hN14.out.set 4 _
            have A15 := Lib.hid (A14.out.far hg15 (by omega))
            have hne2 : ∀ ad, a2 = some ad → ad.block ≠ ts + 1 := fun ad e => by have := hlo2.out ad e; have := hN11.out.lt; omega
            have hVM15 : Hid (VM (w14.setCell ⟨ts + 1, 4, none⟩ (.slice a2 (hn + 1) c2)) ⟨v.st, v.fo, v.pub, v.ds, nhs⟩ da dn dc a2 (hn + 1) c2) :=
             ⟨H'.out.st, H'.out.fo, H'.out.pub, hX14.out.grown hg15 (fun hp ad e => by have := hxg.out hp ad e; omega), hHS14.out.grown hg15 (fun _ => hne2), hbd⟩
            have hyx : Hid (Frz w hn ha a2 (hn + 1)) := fun _ ad e => .inl (Nat.le_trans A11.out.bel.size (hlo2.out ad e))
            have hyf2 : Hid (0 < hn + 1 → ∀ ad, a2 = some ad → ad.block < tb ∨ tb + 1 + 1 + 1 < ad.block) := fun _ ad e => .inr (by have := hlo2.out ad e; have := A11.out.bF.lt; omega)
            refine tO 9 rfl (fun K hK => ?_)
            go_simp
            refine hK.out _ _ ⟨A15.out, _, rfl, hN15.out⟩ (fun hHeld => ?_)
            clear hK K
            try simp only [Act.put, sA, s0, s1]
            refine wpAnyH_done (by kernel_rfl) ?_ _
            clear m4 mf hg15 hHeld
            generalize w14.setCell _ _ = w15 at *
            go_upto_region 26 with fail
            generalize hrf : zrF = rf at *
            refine wp_region_held_drew (S := fun wz => Blk wz (ts + 1) 93 [.int .i64 v.st, .int .i64 v.fo, .int .i64 v.pub, .slice da dn dc, .slice a2 (hn + 1) c2] ∧ VM wz ⟨v.st, v.fo, v.pub, v.ds, nhs⟩ da dn dc a2 (hn + 1) c2 ∧ ∃ rR : List Value, rR.length = 5 ∧ AccB w tb [.int .i64 v.st, .int .i64 v.fo, .int .i64 v.pub, .slice da dn dc, .slice ha hn hc] (hdC h) rR (rf) wz) (by kernel_rfl) (⟨hN15.out, hVM15.out.below (Below.refl _ _).drew, zrV, rfl, A15.out.below (Below.refl _ _).drew⟩) (fun hHeld => ?_)
            refine tQ 0 rfl hHeld ?_
            refine tG 1 (v := ?_) rfl (Or.inl ⟨by rfl, ?_⟩) hHeld ?_
            rotate_left
            · intro wz hSw
              have q0 := hSw.1.at_ (i := 0) rfl
              have q1 := hSw.1.at_ (i := 1) rfl
              have q2 := hSw.1.at_ (i := 2) rfl
              have q3 := hSw.1.at_ (i := 3) rfl
              have q4 := hSw.1.at_ (i := 4) rfl
              go_simp
              all_goals (with_reducible rfl)
            try simp only [Act.put, sA, s0, s1]
            refine tY 2 rfl (tb + 1 + 1 + 1) 0 (rf) (fun wz h => (by obtain ⟨_, _, _, _, hA⟩ := h; exact hA.bF.range)) Tryz.underlying53 zi.out hHeld ?_
            obtain ⟨hS1, hS2, rR, hrR, hAq⟩ := id hHeld
            refine tO 3 rfl (fun K hK => ?_)
            refine wp_store_mid 50 _ _ rfl (tb + 1 + 1) 0 ([.int .i64 v.st, .int .i64 v.fo, .int .i64 v.pub, .slice da dn dc, .slice a2 (hn + 1) c2] : List Value).toArray (by rfl) (by rfl) (there_of hAq.bR (by rw [hrR]; rfl)) (by rw [List.size_toArray]; exact sizeVw) (by rw [List.all_toArray]; rfl) ?_
            have hAs := hAq.setR (r := [.int .i64 v.st, .int .i64 v.fo, .int .i64 v.pub, .slice da dn dc, .slice a2 (hn + 1) c2]) (by rw [hrR]; rfl)
            have hgs := (storedB hAq.bR (vs := [.int .i64 v.st, .int .i64 v.fo, .int .i64 v.pub, .slice da dn dc, .slice a2 (hn + 1) c2]) (by rw [hrR]; rfl)).grown
            have hS3 := hS2.grown hgs (fun hp ad e => by have := hxf.out hp ad e; omega) (fun hp ad e => by have := hyf2.out hp ad e; omega)
            have hS4 := hS1.grown hgs (fun e => by injection e with e; omega)
            refine hK.out _ _ ⟨hS4, hS3, [.int .i64 v.st, .int .i64 v.fo, .int .i64 v.pub, .slice da dn dc, .slice a2 (hn + 1) c2], rfl, hAs⟩ (fun hHeld => ?_)
            clear hK K
            try simp only [Act.put]
            refine tO 4 rfl (fun K hK => ?_)
            refine wp_store_mid 53 _ _ rfl (tb + 1 + 1 + 1) 0 (rf).toArray (by rfl) (by rfl) (there_of hAs.bF rfl) (by rw [List.size_toArray]; exact zi.out) (by simpa using zone.out) ?_
            have hAt := hAs.setF (r := rf) rfl
            have hgt := (storedB hAs.bF (vs := rf) rfl).grown
            have hS5 := hS3.grown hgt (fun hp ad e => by have := hxf.out hp ad e; omega) (fun hp ad e => by have := hyf2.out hp ad e; omega)
            refine hK.out _ _ ⟨hS4.grown hgt (fun e => by injection e with e; omega), hS5, [.int .i64 v.st, .int .i64 v.fo, .int .i64 v.pub, .slice da dn dc, .slice a2 (hn + 1) c2], rfl, hAt⟩ (fun hHeld => ?_)
            clear hK K
            try simp only [Act.put]
            refine tQ 5 rfl hHeld ?_
            refine wpAnyH_done (by kernel_rfl) ?_ _
            have hfin0 := (fun W hb hds => by rw [hX'.out, hsp.out]; exact ⟨da, dn, dc, a2, (hn + 1), c2, none, 0, 0, rfl, hds, okF0, ds_nil W, by omega, hb, hxs.out, hyx.out, frs0 _ _ _ _⟩ : ∀ W, Below w.heap.size w W → VM W ⟨v.st, v.fo, v.pub, v.ds, nhs⟩ da dn dc a2 (hn + 1) c2 → X (.returned (.tuple #[.agg #[.int .i64 v.st, .int .i64 v.fo, .int .i64 v.pub, .slice da dn dc, .slice a2 (hn + 1) c2], .agg (zrF).toArray, .int .i64 0])) W) _ hAt.bel hS5
            rw [hrf] at hfin0
            have hfin := Lib.hid hfin0
            have hB1 := Lib.hid hAt.bR
            have hB2 := Lib.hid hAt.bF
            have fi9 := zi
            clear hfin0 hAt hAs hHeld hAq hS1 hS2 hS3 hS4 hS5 hgs hgt
            go_wp2_with fail
            exact ret_cell_cell_tmp (fn := Tryz.f30) (p := 6) (q := 7) (u := 8) rfl hB1.out Tryz.underlying50 rfl sizeVw hB2.out Tryz.underlying53 rfl fi9.out rfl rfl rfl rfl hfin.out
theorem accept_sep (v : Vw.V) (da : Option Addr) (dn dc : Nat) (ha : Option Addr) (hn hc : Nat) (la : Option Addr) (ln lc : Nat) (es : List Ent) (h : Hd) (ok : OkH h) (w : World) (HT : Tabs w) (H : VM w v da dn dc ha hn hc) (HE : ES (fun _ => True) w la ln lc es) (hhn : hn + 1 ≤ 100000) :
 Calls Tryz.prog 30 #[.agg #[.int .i64 v.st, .int .i64 v.fo, .int .i64 v.pub, .slice da dn dc, .slice ha hn hc], .slice la ln lc, .agg (hdC h).toArray] w (AccPost2 (accV v es h) da ha w) :=
 (accept_sep2 v da dn dc ha hn hc la ln lc es h ok w HT H HE hhn).mono fun _ _ ⟨a, b, c, d, e, f, g, i, j, h1, h2, h3, h4, h5, h6, h7, h8, h9⟩ => ⟨a, b, c, d, e, f, g, i, j, h1, h2, h3, h4, h5, h6, h7.s, h8.s, h9.s⟩
theorem accept_any (v : Vw.V) (da : Option Addr) (dn dc : Nat) (ha : Option Addr) (hn hc : Nat) (la : Option Addr) (ln lc : Nat) (es : List Ent) (h : Hd) (ok : OkH h) (w : World) (HT : Tabs w) (H : VM w v da dn dc ha hn hc) (HE : ES (fun _ => True) w la ln lc es) (hhn : hn + 1 ≤ 100000) :
 Calls Tryz.prog 30 #[.agg #[.int .i64 v.st, .int .i64 v.fo, .int .i64 v.pub, .slice da dn dc, .slice ha hn hc], .slice la ln lc, .agg (hdC h).toArray] w (AccPost (accV v es h) w) :=
 (accept_sep v da dn dc ha hn hc la ln lc es h ok w HT H HE hhn).mono fun _ _ ⟨a, b, c, d, e, f, g, i, j, h1, h2, h3, h4, h5, h6, _, _, _⟩ => ⟨a, b, c, d, e, f, g, i, j, h1, h2, h3, h4, h5, h6⟩
end Go.Proofs.YtnonfdcbnkdmcaaGreatDoor
