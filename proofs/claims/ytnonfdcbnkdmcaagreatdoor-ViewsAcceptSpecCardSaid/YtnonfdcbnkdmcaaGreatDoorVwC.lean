/- views.accuse, Check, New, isEntry views.New, Check, isEntry slices.Clone and slices.Insert at []api.Head slices.BinarySearchFunc at []api.Head by numbers; one head inserted slices of digests: appended to, and their parts rows of heads: what a slice of heads reads as, one head's slice, an owned row as a slice of heads heads compared views.Accept -/
import Derived.Test.YtnonfdcbnkdmcaaGreatDoorAl
import Derived.Test.YtnonfdcbnkdmcaaGreatDoorVwB
import Derived.Test.YtnonfdcbnkdmcaaGreatDoorRow
import Derived.Deep.QuietTactic
import Derived.BigQuiet
import Derived.Test.YtnonfdcbnkdmcaaGreatDoorRgA
import Derived.Test.YtnonfdcbnkdmcaaGreatDoorSgA
namespace Go.Proofs.YtnonfdcbnkdmcaaGreatDoor
open Go.RowKit Go.Mem Go.Shelf
open Go.Vw (Hd Fk fitsB oddP oddI zeroH zeroF lastH ownsB verH validB accuse)

def forkC (f : Fk) (a : Option Addr) (n c : Nat) : List Value := hdC f.a ++ (hdC f.b ++ [.slice a n c])
def zrF : List Value := forkC zeroF none 0 0
structure OkF (f : Fk) : Prop where
 a : OkH f.a
 b : OkH f.b
theorem okF0 : OkF zeroF := ⟨okH0, okH0⟩
theorem forkC_len {f : Fk} (ok : OkF f) (a : Option Addr) (n c : Nat) : (forkC f a n c).length = 75 := by
 unfold forkC
 rw [List.length_append, List.length_append, hdC_len ok.a, hdC_len ok.b]
 rfl
theorem forkC_one {f : Fk} (ok : OkF f) (a : Option Addr) (n c : Nat) : ∀ u ∈ forkC f a n c, u.oneCell' = true := by
 unfold forkC
 intro u hu
 rcases List.mem_append.1 hu with h | h
 · exact (hdC_r ok.a).one u h
 · rcases List.mem_append.1 h with h | h
   · exact (hdC_r ok.b).one u h
   · rw [List.mem_singleton] at h; subst h; rfl
theorem sizeF : (Tryz.prog.info? 53).map (·.size) = some 75 := by kernel_rfl
theorem infoF {f : Fk} (ok : OkF f) (a : Option Addr) (n c : Nat) : Hid ((Tryz.prog.info? 53).map (·.size) = some (forkC f a n c).length) := by show _ = _; rw [forkC_len ok]; exact sizeF
theorem fork_range (g1 g2 : Nat → Nat) (s1 f1 n1 R1 S1 s2 f2 n2 R2 S2 : Int) (a : Option Addr) (n c : Nat) (W : World) :
 (Instr.build 53 #[(0, .agg (headC s1 f1 n1 ((List.range 32).map g1) R1 S1).toArray), (1, .agg (headC s2 f2 n2 ((List.range 32).map g2) R2 S2).toArray), (2, .slice a n c)]).run Tryz.prog W = .ok (.agg (headC s1 f1 n1 ((List.range 32).map g1) R1 S1 ++ (headC s2 f2 n2 ((List.range 32).map g2) R2 S2 ++ [Value.slice a n c])).toArray) W := run_build W _ _ _ (by kernel_rfl)
theorem fork_build {x y : Hd} (hx : OkH x) (hy : OkH y) (ds : List (List Nat)) (a : Option Addr) (n c : Nat) (W : World) :
 (Instr.build 53 #[(0, .agg (hdC x).toArray), (1, .agg (hdC y).toArray), (2, .slice a n c)]).run Tryz.prog W = .ok (.agg (forkC ⟨x, y, ds⟩ a n c).toArray) W := by
 unfold forkC hdC
 simp only []
 rw [as_range hx.ch.1, as_range hy.ch.1]
 exact fork_range _ _ _ _ _ _ _ _ _ _ _ _ a n c W
def AcuPost (x : Fk × Bool) (da : Option Addr) (dn dc : Nat) (ds : List (List Nat)) (w : World) (e : Ending) (w' : World) : Prop :=
 ((x.2 = true ∧ x.1.ds = ds ∧ e = .returned (.tuple #[.agg (forkC x.1 da dn dc).toArray, .bool true])) ∨ (x = (zeroF, false) ∧ e = .returned (.tuple #[.agg zrF.toArray, .bool false]))) ∧ OkF x.1 ∧ Below w.heap.size w w'
theorem accuse_R (v : Vw.V) (hs : List Hd) : accuse v hs = if (oddR hs v.ds).2 then (⟨(oddR hs v.ds).1, lastH v.hs, v.ds⟩, true) else (zeroF, false) := by
 unfold accuse oddR
 cases hs[oddI hs v.ds]? <;> rfl
theorem oddR_ok {w : World} {a : Option Addr} {n c : Nat} {l : List Hd} (H : HS w a n c l) (ds : List (List Nat)) : OkH (oddR l ds).1 := by
 unfold oddR
 cases hq : l[oddI l ds]? with
 | none => exact okH0
 | some h => exact H.ok (List.mem_of_getElem? hq)

set_option maxRecDepth 20000 in
set_option maxHeartbeats 4000000 in
theorem accuse_any (v : Vw.V) (da : Option Addr) (dn dc : Nat) (ha : Option Addr) (hn hc : Nat) (la : Option Addr) (ln lc : Nat) (l : List Hd) (w : World) (HT : Tabs w) (H : VM w v da dn dc ha hn hc) (HL : HS w la ln lc l) :
 Calls Tryz.prog 50 #[.agg #[.int .i64 v.st, .int .i64 v.fo, .int .i64 v.pub, .slice da dn dc, .slice ha hn hc], .slice la ln lc] w (AcuPost (accuse v l) da dn dc v.ds w) := by
 have H' := Lib.hid H; have HT' := Lib.hid HT; have HL' := Lib.hid HL
 have hbd := H.bd
 have ok := oddR_ok HL v.ds
 have okL := H.hs.last
 clear H HT HL
 obtain ⟨tb, htb⟩ : ∃ tb, Hid (w.heap.size = tb) := ⟨_, rfl⟩
 obtain ⟨W1, hW1⟩ : ∃ W1, W1 = (w.alloc (.cells #[.int .i64 v.st, .int .i64 v.fo, .int .i64 v.pub, .slice da dn dc, .slice ha hn hc] 93)).alloc (.cells zrF.toArray 53) := ⟨_, rfl⟩
 have hbv : Hid (Blk W1 tb 93 [.int .i64 v.st, .int .i64 v.fo, .int .i64 v.pub, .slice da dn dc, .slice ha hn hc]) := by rw [hW1, ← htb.out]; exact (Blk.new w _ _).alloc _
 have hbf : Hid (Blk W1 (tb + 1) 53 zrF) := by
  rw [hW1, ← htb.out]
  have := Blk.new (w.alloc (.cells #[.int .i64 v.st, .int .i64 v.fo, .int .i64 v.pub, .slice da dn dc, .slice ha hn hc] 93)) 53 zrF
  rwa [World.size_alloc] at this
 have hb1 : Hid (Below w.heap.size w W1) := by rw [hW1]; exact ((Below.refl _ w).alloc (Nat.le_refl _) _).alloc (by simp) _
 have c3 := hbv.out.at_ (i := 3) rfl
 have hodd := Lib.hid (odd_any la ln lc l da dn dc v.ds W1 (HT'.out.below hb1.out) (HL'.out.below hb1.out) (H'.out.ds.below hb1.out) hbd)
 obtain ⟨X, hX⟩ : ∃ X, X = AcuPost (accuse v l) da dn dc v.ds w := ⟨_, rfl⟩
 rw [← hX]
 rw [accuse_R] at hX
 obtain ⟨V, hV⟩ : ∃ V, Hid (oddR l v.ds = V) := ⟨_, rfl⟩
 rw [hV.out] at hodd hX ok
 obtain ⟨x, b⟩ := V
 clear hV
 simp only [] at ok hX
 have hX' := Lib.hid hX
 have ok' := Lib.hid ok
 clear hX ok
 go_enter Tryz.func50, Tryz.ntmps50
 go_upto_region 1 with fail
 rw [htb.out]
 generalize hWq : (w.alloc _).alloc _ = Wq
 obtain rfl : W1 = Wq := by rw [← hWq, hW1]; rfl
 clear hWq hW1
 go_wp2_with fail
 refine hodd.out.mono ?_
 rintro e w2 ⟨rfl, hb2⟩
 have hb2' := Lib.hid (hb1.out.trans (hb2.mono hb1.out.size))
 have hbv2 := Lib.hid (hbv.out.below hb2 hbv.out.lt)
 have hbf2 := Lib.hid (hbf.out.below hb2 hbf.out.lt)
 clear hb2 hbv hbf hb1 hodd c3
 obtain ⟨W3, hP⟩ := put_row (ty := 36) (Blk.new w2 36 zrH) (x := hdC x) (by rw [hdC_len ok'.out]; rfl) (by rw [hdC_len ok'.out]; exact sizeH) (hdC_r ok'.out).one
 obtain ⟨tq, htq⟩ : ∃ tq, tq = w2.heap.size := ⟨_, rfl⟩
 have hgw : w2.grownBy W3 none := ⟨hP.grown.os, hP.grown.tape, hP.grown.output, Nat.le_trans (by simp) hP.grown.size, fun q hq _ => (hP.grown.block q (by simp; omega) (fun e => by cases e; omega)).trans (Below.heap_alloc w2 _ q hq)⟩
 have hbw3 : Below w2.heap.size w2 W3 := (Below.refl _ w2).grown hgw (Nat.le_refl _) (fun _ e => by cases e)
 have hb3 := Lib.hid (hb2'.out.trans (hbw3.mono hb2'.out.size))
 have hbv3 := Lib.hid (hbv2.out.below hbw3 hbv2.out.lt)
 have hbf3 := Lib.hid (hbf2.out.below hbw3 hbf2.out.lt)
 have hBq : Hid (Blk W3 tq 36 (hdC x)) := by rw [htq]; exact hP.blk
 have hP' := Lib.hid hP
 have hne : tq ≠ tb + 1 := by have := hbf2.out.lt; omega
 clear hP hgw hbw3 hbv2 hbf2 hb2'
 cases b with
 | false =>
  have hst := storedB hbf3.out (vs := zrF) rfl
  have hth := Lib.hid (there_of hbf3.out (vs := zrF) rfl)
  have hone := Lib.hid (forkC_one okF0 none 0 0)
  have hi := infoF okF0 none 0 0
  rw [show forkC zeroF none 0 0 = zrF from rfl] at hone hi
  have hfin : Hid (X (.returned (.tuple #[.agg zrF.toArray, .bool false])) (W3.setCells (tb + 1) 0 zrF)) := by
   rw [hX'.out]
   exact ⟨.inr ⟨rfl, rfl⟩, okF0, hst.below hb3.out hb3.out.size (by rw [htb.out]; omega)⟩
  have hblk := Lib.hid hst.blk
  have hrg := Lib.hid hbf3.out.range
  clear hst hX' hbf3 hbv3
  generalize zrF = rf at *
  generalize hdC x = r at *
  go_wp2_with (first
   | (refine wpList_store_mid (by rfl) 36 _ _ (by rfl) w2.heap.size 0 r.toArray (by rfl) (by rfl) hP'.out.there hP'.out.info (by simpa using hP'.out.one) ?_
      generalize hWq : World.setCells _ _ _ _ = Wa
      obtain rfl : W3 = Wa := by rw [← hWq]; exact hP'.out.eq
      clear hWq)
       | (refine wpList_load_g (by rfl) 53 _ (by rfl) (tb + 1) 0 (by rfl) rf _ hrg.out Tryz.underlying53 (by rfl) hi.out ?_)
       | (refine wpList_store_mid (by rfl) 53 _ _ (by rfl) (tb + 1) 0 rf.toArray (by rfl) (by rfl) hth.out (by rw [List.size_toArray]; exact hi.out) (by simpa using hone.out) ?_))
  exact ret_cell_tmp (fn := Tryz.f50) (p := 4) (u := 5) rfl hblk.out Tryz.underlying53 rfl hi.out rfl rfl rfl hfin.out
 | true =>
  have hlast := Lib.hid (fun W (h : VM W v da dn dc ha hn hc) => last_any v da dn dc ha hn hc W h)
  obtain ⟨y, hy⟩ : ∃ y, Hid (lastH v.hs = y) := ⟨_, rfl⟩
  rw [hy.out] at hlast hX' okL
  have hbuild := fun W => fork_build ok'.out okL v.ds da dn dc W
  have okF : Hid (OkF ⟨x, y, v.ds⟩) := ⟨ok'.out, okL⟩
  have hri := infoHd ok'.out
  clear hy okL
  go_upto_region 4 with (first
   | (refine wpList_store_mid (by rfl) 36 _ _ (by rfl) w2.heap.size 0 (hdC x).toArray (by rfl) (by rfl) hP'.out.there hP'.out.info (by simpa using hP'.out.one) ?_
      generalize hWq : World.setCells _ _ _ _ = Wa
      obtain rfl : W3 = Wa := by rw [← hWq]; exact hP'.out.eq
      clear hWq))
  rw [← htq]
  try simp only [Act.put]
  clear hP' htq
  refine wp_region_held_drew (S := fun wz => Blk wz tb 93 [.int .i64 v.st, .int .i64 v.fo, .int .i64 v.pub, .slice da dn dc, .slice ha hn hc] ∧ Blk wz tq 36 (hdC x) ∧ Below w.heap.size w wz) (by kernel_rfl) (⟨hbv3.out, hBq.out, hb3.out.drew⟩) (fun hHeld => ?_)
  refine tY 0 rfl tq 0 (hdC x) (fun wz h => h.2.1.range) Tryz.underlying36 hri.out hHeld ?_
  refine tG 1 (v := ?_) rfl (Or.inl ⟨by rfl, ?_⟩) hHeld ?_
  rotate_left
  · intro wz hSw
    have q0 := hSw.1.at_ (i := 0) rfl
    have q1 := hSw.1.at_ (i := 1) rfl
    have q2 := hSw.1.at_ (i := 2) rfl
    have q3 := hSw.1.at_ (i := 3) rfl
    have q4 := hSw.1.at_ (i := 4) rfl
    go_simp
    all_goals (with_reducible rfl)
  try simp only [Act.put, sA, s0, s1]
  refine tQ 3 rfl hHeld ?_
  refine tQ 4 rfl hHeld ?_
  refine tG 5 (v := ?_) rfl (Or.inl ⟨by rfl, ?_⟩) hHeld ?_
  rotate_left
  · intro wz hSw
    have q0 := hSw.1.at_ (i := 0) rfl
    have q1 := hSw.1.at_ (i := 1) rfl
    have q2 := hSw.1.at_ (i := 2) rfl
    have q3 := hSw.1.at_ (i := 3) rfl
    have q4 := hSw.1.at_ (i := 4) rfl
    go_simp
    all_goals (with_reducible rfl)
  try simp only [Act.put, sA, s0, s1]
  refine tO 2 rfl (fun K hK => ?_)
  go_simp
  go_at_call 98
  refine (hlast.out _ (H'.out.below hHeld.2.2)).mono ?_
  rintro e w4 ⟨rfl, hb4⟩
  have hbf4 := Lib.hid (hbf3.out.below (w' := w4) ((Below.refl _ W3).drew.trans hb4) hbf3.out.lt)
  refine hK.out _ _ ⟨hHeld.1.below hb4 hHeld.1.lt, hHeld.2.1.below hb4 hHeld.2.1.lt, hHeld.2.2.trans (hb4.mono hHeld.2.2.size)⟩ (fun hHeld => ?_)
  clear hK K
  try simp only [Act.put, sA, s0, s1]
  refine tU 6 rfl #[(0, .agg (hdC x).toArray), (1, .agg (hdC y).toArray), (2, .slice da dn dc)] hbuild hHeld ?_
  obtain ⟨W5, hQ⟩ := put_row (ty := 53) hbf4.out (x := forkC ⟨x, y, v.ds⟩ da dn dc) (by rw [forkC_len okF.out]; rfl) (by rw [forkC_len okF.out]; exact sizeF) (forkC_one okF.out _ _ _)
  have hB5 := Lib.hid (below_grown hHeld.2.2 hQ.grown hHeld.2.2.size (by rw [htb.out]; omega))
  refine tO 7 rfl (fun K hK => ?_)
  refine wp_store_mid 53 _ _ rfl (tb + 1) 0 (forkC ⟨x, y, v.ds⟩ da dn dc).toArray (by rfl) (by rfl) hQ.there hQ.info (by simpa using hQ.one) ?_
  generalize hWq : World.setCells _ _ _ _ = Wa
  obtain rfl : W5 = Wa := by rw [← hWq]; exact hQ.eq
  clear hWq
  refine hK.out _ _ ⟨hHeld.1.grown hQ.grown (fun e => by cases e), hHeld.2.1.grown hQ.grown (fun e => hne (by cases e; rfl)), hB5.out⟩ (fun hHeld => ?_)
  clear hK K
  try simp only [Act.put]
  refine tQ 8 rfl hHeld ?_
  refine wpAnyH_done (by kernel_rfl) ?_ _
  have hfin : Hid (X (.returned (.tuple #[.agg (forkC ⟨x, y, v.ds⟩ da dn dc).toArray, .bool true])) W5) := by
   rw [hX'.out]
   exact ⟨.inl ⟨rfl, rfl, rfl⟩, okF.out, hHeld.2.2⟩
  have hi := infoF okF.out da dn dc
  have hblk := Lib.hid hQ.blk
  clear hQ hB5 hbuild hbf4 hX'
  generalize forkC ⟨x, y, v.ds⟩ da dn dc = rf at *
  go_wp2_with fail
  exact ret_cell_tmp (fn := Tryz.f50) (p := 4) (u := 5) rfl hblk.out Tryz.underlying53 rfl hi.out rfl rfl rfl hfin.out
end Go.Proofs.YtnonfdcbnkdmcaaGreatDoor
namespace Go.Proofs.YtnonfdcbnkdmcaaGreatDoor
open Go.RowKit Go.Mem Go.Shelf
open Go.Sto (Ent)
open Go.Vw (entOk validB checkV)

set_option maxRecDepth 20000 in
theorem viewNew_any (st fo pub : Int) (w : World) :
 Calls Tryz.prog 24 #[.int .i64 st, .int .i64 fo, .int .i64 pub] w fun e w' => e = .returned (.agg #[.int .i64 st, .int .i64 fo, .int .i64 pub, .slice none 0 0, .slice none 0 0]) ∧ Below w.heap.size w w' := by
 go_enter Tryz.func24, Tryz.ntmps24
 go_wp2_with fail
 exact ret_cell (fn := Tryz.f24) (p := 6) (r := [.int .i64 st, .int .i64 fo, .int .i64 pub, .slice none 0 0, .slice none 0 0]) rfl (Blk.new w 50 _) Tryz.underlying50 rfl (by kernel_rfl) rfl rfl ⟨rfl, (Below.refl _ w).alloc (Nat.le_refl _) _⟩

set_option maxRecDepth 20000 in
set_option maxHeartbeats 1000000 in
theorem viewCheck_any (v : Vw.V) (da : Option Addr) (dn dc : Nat) (ha : Option Addr) (hn hc : Nat) (w : World) (HT : Tabs w) (H : VM w v da dn dc ha hn hc) :
 Calls Tryz.prog 26 #[.agg #[.int .i64 v.st, .int .i64 v.fo, .int .i64 v.pub, .slice da dn dc, .slice ha hn hc]] w (RetI (checkV v) w) := by
 have hval := Lib.hid (fun W hT h => viewValid_any v da dn dc ha hn hc W hT h)
 have H' := Lib.hid H; have HT' := Lib.hid HT
 clear H HT
 have hb1 : Hid (Below w.heap.size w (w.alloc (.cells #[.int .i64 v.st, .int .i64 v.fo, .int .i64 v.pub, .slice da dn dc, .slice ha hn hc] 50))) := (Below.refl _ w).alloc (Nat.le_refl _) _
 unfold checkV
 obtain ⟨b, hb⟩ : ∃ b, Hid (validB v = b) := ⟨_, rfl⟩
 rw [hb.out] at hval ⊢
 clear hb
 cases b <;>
 · simp only [if_true, Bool.false_eq_true, if_false]
   go_enter Tryz.func26, Tryz.ntmps26
   go_wp2_with fail
   refine (hval.out _ (HT'.out.below hb1.out) (H'.out.below hb1.out)).mono ?_
   rintro e w2 ⟨rfl, hb2⟩
   have hfin := Lib.hid (hb1.out.trans (hb2.mono hb1.out.size))
   clear hb2
   go_wp2_with fail
   go_ret
   exact ⟨rfl, hfin.out⟩

set_option maxRecDepth 20000 in
set_option maxHeartbeats 4000000 in
theorem isEntry_any (x : Ent) (ok : OkE x) (a : Option Addr) (n c : Nat) (w : World) (HT : Tabs w) (HD : BW w a n c x.data) :
 Calls Tryz.prog 58 #[.agg (entC x a n c).toArray] w (RetBo (entOk x) w) := by
 have HT' := Lib.hid HT; have HD' := Lib.hid HD
 have hn := HD.len
 clear HT HD
 have hnb : n ≤ 1000000 := by have := ok.data; omega
 have n63 : (n : Int) ≤ 1000000 := by omega
 have hG : EntB (w.alloc (.cells (entC x a n c).toArray 75)) w.heap.size x a n c := EntB.of (t := 75) (Blk.new w _ _) ok.dig
 have hb1 : Hid (Below w.heap.size w (w.alloc (.cells (entC x a n c).toArray 75))) := (Below.refl _ w).alloc (Nat.le_refl _) _
 have c0 := hG.kind
 have c33 := hG.data
 have c34 := hG.gone
 have hdr := Lib.hid hG.dig
 have hdig := Lib.hid (fun W hT hB => digest_any x.kind ⟨ok.lo, ok.hi⟩ a n c x.data W hT hB (by omega))
 have hdi : Hid ((Tryz.prog.info? 32).map (·.size) = some (bv x.dig).length) := by show _ = _; rw [bv_length, ok.dig]; exact size35
 have heq := fun W => eq_dig (x := x.dig) (y := entryD x.kind x.data) ⟨ok.dig, ok.lt⟩ ⟨Sha.tagged_length _ _, Sha.tagged_lt _ _⟩ W
 have hE : entOk x = ((decide (1 ≤ x.kind ∧ x.kind ≤ 7)) && (if x.gone then decide (x.kind = 4) && decide (n = 0) else decide (x.dig = entryD x.kind x.data))) := by rw [← hn]; rfl
 obtain ⟨B0, hB0⟩ : ∃ B, Hid (entOk x = B) := ⟨_, rfl⟩
 rw [hB0.out] at hE ⊢
 obtain ⟨X, hX⟩ : ∃ X, X = RetBo B0 w := ⟨_, rfl⟩
 have hret : Hid (∀ W, Below w.heap.size w W → X (.returned (.bool B0)) W) := fun W h => by rw [hX]; exact ⟨rfl, h⟩
 rw [← hX]
 clear hX hG hB0
 obtain ⟨eq, heqq⟩ : ∃ eq, Hid (decide (x.dig = entryD x.kind x.data) = eq) := ⟨_, rfl⟩
 rw [heqq.out] at heq hE
 clear heqq
 obtain ⟨tb, htb⟩ : ∃ tb, Hid (w.heap.size = tb) := ⟨_, rfl⟩
 rw [htb.out] at c0 c33 c34 hdr
 have hlt : tb < (w.alloc (.cells (entC x a n c).toArray 75)).heap.size := by rw [← htb.out]; simp
 generalize hW1 : w.alloc (.cells (entC x a n c).toArray 75) = W1 at *
 by_cases hk1 : x.kind < 1
 · have hB : B0 = false := by rw [hE, decide_eq_false (by omega)]; rfl
   subst hB
   have g0 : decide (x.kind < 1) = true := decide_eq_true hk1
   clear hE
   go_enter Tryz.func58, Tryz.ntmps58
   go_upto_region 1 with fail
   rw [htb.out]
   have hfin := Lib.hid (hret.out _ hb1.out)
   go_wp2_with fail
   exact hfin.out
 · by_cases hk7 : 7 < x.kind
   · have hB : B0 = false := by rw [hE, decide_eq_false (by omega)]; rfl
     subst hB
     have g0 : decide (x.kind < 1) = false := decide_eq_false hk1
     have g1 : decide (7 < x.kind) = true := decide_eq_true hk7
     clear hE
     go_enter Tryz.func58, Tryz.ntmps58
     go_upto_region 1 with fail
     rw [htb.out]
     have hfin := Lib.hid (hret.out _ hb1.out)
     go_wp2_with fail
     exact hfin.out
   · have g0 : decide (x.kind < 1) = false := decide_eq_false hk1
     have g1 : decide (7 < x.kind) = false := decide_eq_false hk7
     rw [decide_eq_true (by omega), Bool.true_and] at hE
     have hE' := Lib.hid hE
     clear hE
     cases hg : x.gone with
     | true =>
      rw [hg] at c34 hE'
      by_cases hk4 : x.kind = 4
      · have g2 : (x.kind == 4) = true := by simpa using hk4
        have hB : Hid (B0 = decide (n = 0)) := by show _ = _; rw [hE'.out, decide_eq_true hk4]; rfl
        have g3 : ((n : Int) == 0) = B0 := by rw [hB.out]; show decide ((n : Int) = 0) = _; exact decide_eq_decide.2 (by omega)
        clear hB hE' hk4 hk1 hk7
        go_enter Tryz.func58, Tryz.ntmps58
        go_upto_region 1 with fail
        rw [htb.out]
        have hfin := Lib.hid (hret.out _ hb1.out)
        go_wp2_with fail
        exact hfin.out
      · have g2 : (x.kind == 4) = false := by simpa using hk4
        have hB : B0 = false := by rw [hE'.out, decide_eq_false hk4]; rfl
        subst hB
        clear hE' hk4 hk1 hk7
        go_enter Tryz.func58, Tryz.ntmps58
        go_upto_region 1 with fail
        rw [htb.out]
        have hfin := Lib.hid (hret.out _ hb1.out)
        go_wp2_with fail
        exact hfin.out
     | false =>
      rw [hg] at c34 hE'
      have hB : B0 = eq := hE'.out
      subst hB
      clear hE' hk1 hk7
      go_enter Tryz.func58, Tryz.ntmps58
      go_upto_region 1 with fail
      rw [htb.out]
      go_upto_region 5 with fail
      refine wp_region_held_drew (S := fun wz => Below W1.heap.size W1 wz) (by kernel_rfl) ((Below.refl _ W1).drew) (fun hHeld => ?_)
      refine tQ 0 rfl hHeld ?_
      refine tY 1 rfl tb 1 (bv x.dig) (fun wz h => fun j v hv => (h.cell (p := ⟨tb, _, none⟩) hlt).trans (hdr.out j v hv)) Tryz.underlying32 hdi.out hHeld ?_
      refine tQ 2 rfl hHeld ?_
      refine tX 3 rfl (fun wz hSw => And.intro ((hSw.cell (p := ⟨tb, 0, none⟩) hlt).trans c0) ((hSw.cell (p := ⟨tb, 33, none⟩) hlt).trans c33)) hHeld ?_
      refine tQ 4 rfl hHeld ?_
      refine tX 5 rfl (fun wz hSw => And.intro ((hSw.cell (p := ⟨tb, 0, none⟩) hlt).trans c0) ((hSw.cell (p := ⟨tb, 33, none⟩) hlt).trans c33)) hHeld ?_
      refine tO 6 rfl (fun K hK => ?_)
      go_simp
      go_at_call 71
      refine (hdig.out _ (HT'.out.below (hb1.out.trans (hHeld.mono hb1.out.size))) (HD'.out.below (hb1.out.trans (hHeld.mono hb1.out.size)))).mono ?_
      rintro e w2 ⟨rfl, hb2⟩
      refine hK.out _ _ (hHeld.trans (hb2.mono hHeld.size)) (fun hHeld => ?_)
      clear hK K
      try simp only [Act.put, sA, s0, s1]
      refine tQ 7 rfl hHeld ?_
      refine tQ 8 rfl hHeld ?_
      refine wpAnyH_done (by kernel_rfl) ?_ _
      have hfin := Lib.hid (hret.out _ (hb1.out.trans (hHeld.mono hb1.out.size)))
      go_wp2_with fail
      exact hfin.out
end Go.Proofs.YtnonfdcbnkdmcaaGreatDoor
namespace Go.Proofs.YtnonfdcbnkdmcaaGreatDoor
open Go.RowKit Go.Mem

theorem infoHz : (Tryz.prog.info? 36).map (fun i => (i.zero, i.size, i.bytes)) = some (some (.agg zrH.toArray), 37, 72) := by kernel_rfl


set_option maxRecDepth 20000 in
set_option maxHeartbeats 1000000 in
theorem cloneH_any (a : Option Addr) (n c : Nat) (xs : List Value) (w : World) (H : Sl.Reads w a n c 37 xs) (h1 : ∀ u ∈ xs, u.oneCell' = true) (hb : n * 72 ≤ 140737488355328) :
 Calls Tryz.prog 63 #[.slice a n c] w (Sl.Owns w.heap.size 36 37 n xs w) := by
 have hnil := fun (W : World) => Lib.run_eql_slice_nil (P := Tryz.prog) W 48 36 a n c 0 0 Tryz.underlying48
 obtain ⟨i0, hi, hz0, hz1, hz2⟩ := info_parts infoHz
 have hlen := H.len
 cases a with
 | none =>
  obtain ⟨rfl, rfl⟩ := H.nil rfl
  have hx : xs = [] := List.eq_nil_of_length_eq_zero (by simpa using hlen)
  subst hx
  clear hlen
  go_enter Tryz.func63, Tryz.ntmps63
  go_wp2
  go_ret
  exact ⟨_, rfl, World.ownsRow_nil _ _ _ _, Below.refl _ _⟩
 | some ad =>
  have hl := Lib.hid hlen
  clear hlen
  have hb' := Lib.hid hb
  clear hb
  go_enter Tryz.func63, Tryz.ntmps63
  go_wp2_with (at_builtin; refine wpList_append_own _ rfl _ _ 48 rfl w.heap.size 36 i0 _ 37 72 Tryz.underlying48 hi hz0 hz1 hz2 rfl (by decide) _ _ _ rfl (World.ownsRow_made (e := 36) (size := 37) w #[] 0 (Nat.le_refl _) (by unfold maxLen; omega) rfl) ad n c xs rfl hl.out (H.below (w' := w.alloc (.cells #[] 36)) ((Below.refl _ w).alloc (Nat.le_refl _) _) (Nat.le_refl _)).news h1 (by have := hb'.out; unfold maxLen; omega) (by have := hb'.out; omega) (by simp) ?_; intro v' w1 hown hgrow _)
  go_ret
  refine ⟨v', rfl, by simpa using hown, ((Below.refl _ w).alloc (Nat.le_refl _) _).grown hgrow (by simp) (fun k e => by cases e; exact Nat.le_refl _)⟩

set_option maxRecDepth 20000 in
set_option maxHeartbeats 1000000 in
theorem insertH_end (B : Nat) (v : Value) (n : Nat) (xs ys : List Value) (w : World) (hown : w.ownsRow B 36 37 v n xs) (vb : Nat) (hy : ys.length = 37) (h1 : ∀ u ∈ ys, u.oneCell' = true)
 (hvs : ∀ j u, ys[j]? = some u → w.cell? ⟨vb, j, none⟩ = some u) (hB : B ≤ w.heap.size) (hb : (n + 1) * 72 ≤ 140737488355328) :
 Calls Tryz.prog 62 #[v, .int .i64 n, .slice (some ⟨vb, 0, none⟩) 1 1] w (Sl.OwnsAfter B 36 37 (n + 1) (xs ++ ys) w) := by
 obtain ⟨i0, hi, hz0, hz1, hz2⟩ := info_parts infoHz
 obtain ⟨a, c, hv, R, hbl⟩ := Sl.of_owns hown
 have hle := R.le
 have hmx := R.max
 unfold maxLen at hmx
 have hown' := Lib.hid hown
 have hv' := Lib.hid hv
 have hvs' : Hid (∀ j u, ys[j]? = some u → w.cell? ((⟨vb, 0, none⟩ : Addr).add j) = some u) := fun j u hj => by rw [Addr.add_lit, Nat.zero_add]; exact hvs j u hj
 have hy' := Lib.hid hy
 have hb' := Lib.hid hb
 have hbl' := Lib.hid hbl
 clear hown hvs hy hb hbl R
 rw [hv]
 clear hv
 go_enter Tryz.func62, Tryz.ntmps62
 go_wp2_with (at_builtin; refine wpList_append_own _ rfl _ _ 48 rfl B 36 i0 _ 37 72 Tryz.underlying48 hi hz0 hz1 hz2 rfl (by decide) _ n xs rfl (hv'.out ▸ hown'.out) ⟨vb, 0, none⟩ 1 1 ys rfl hy'.out hvs'.out h1 (by have := hb'.out; unfold maxLen; omega) hb'.out hB ?_; intro v' w1 hown1 hgrow _)
 all_goals
  go_ret
  exact ⟨v', rfl, hown1, (Below.refl _ _).grown hgrow hB (fun k e => by cases a with
   | none => cases e
    | some ad => cases e; exact (hbl'.out ad rfl).1)⟩


set_option maxRecDepth 20000 in
set_option maxHeartbeats 1000000 in
theorem insertH_grow (B : Nat) (g n i cap : Nat) (xs rest ys : List Value) (w : World) (_hBg : B ≤ g) (hgl : g < w.heap.size) (hg : w.heap[g]? = some (.cells (xs ++ rest).toArray 36 (0, 0))) (hx : xs.length = n * 37) (hin : i < n) (hnc : n ≤ cap) (hcm : cap ≤ maxLen)
 (hfull : cap < n + 1) (h1x : ∀ u ∈ xs, u.oneCell' = true)
 (vb : Nat) (hvb : vb < w.heap.size) (hy : ys.length = 37) (h1 : ∀ u ∈ ys, u.oneCell' = true)
 (hvs : ∀ j u, ys[j]? = some u → w.cell? ⟨vb, j, none⟩ = some u) (hB : B ≤ w.heap.size) (hb : (n + 1) * 72 ≤ 140737488355328) :
 Calls Tryz.prog 62 #[.slice (some ⟨g, 0, none⟩) n cap, .int .i64 i, .slice (some ⟨vb, 0, none⟩) 1 1] w (Sl.OwnsAfter B 36 37 (n + 1) (xs.take (i * 37) ++ ys ++ xs.drop (i * 37)) w) := by
 unfold maxLen at hcm
 obtain rfl : cap = n := by omega
 obtain ⟨i0, hi, hz0, hz1, hz2⟩ := info_parts infoHz
 have hne : ¬ (cap : Int) = (i : Int) := by omega
 have hne2 : ¬ (i : Int) = (cap : Int) := by omega
 have hne3 : ¬ cap = i := by omega
 have hin' : (i : Int) < (cap : Int) := by omega
 have hcb : (cap : Int) ≤ 4398046511104 := by omega
 have hcell : ∀ j u, xs[j]? = some u → w.cell? ⟨g, j, none⟩ = some u := fun j u hj => by
  rw [cell_of_row w g j _ 36 (0, 0) hg]
  have := (List.getElem?_eq_some_iff.1 hj).1
  simpa [List.getElem?_append_left this] using hj
 have hx3 : i * 37 ≤ xs.length := by omega
 obtain ⟨c2, W1, Z, hr1, hc2, hc2m, hW1, hZ, hb1, hs1⟩ := Sl.append_zeros (P := Tryz.prog) w 48 3 36 i0 _ .i64 37 72 Tryz.underlying48 Tryz.underlying3 hi hz0 hz1 hz2 rfl ⟨g, 0, none⟩ i cap (cap + 1 - i) (cap + 1) (xs.take (i * 37)) (by simp; omega)
  (fun j u hj => by rw [Addr.add_lit, Nat.zero_add]; rw [List.getElem?_take] at hj; split at hj; exact hcell j u hj; cases hj) ((cap : Int) + 1 - (i : Int)) (by omega) (by omega) (by omega) (by omega) (by omega) hb (by omega)
 have hpl : (xs.take (i * 37)).length = i * 37 := by rw [List.length_take]; omega
 unfold maxLen at hc2m
 have hvs1 : ∀ j u, ys[j]? = some u → W1.cell? ((⟨vb, 0, none⟩ : Addr).add j) = some u := fun j u hj => by
  rw [Addr.add_lit, Nat.zero_add, hb1.cell (p := ⟨vb, j, none⟩) hvb]; exact hvs j u hj
 obtain ⟨W2, hr2, hW2, hg2, hs2⟩ := Sl.copy_row (P := Tryz.prog) W1 48 48 36 w.heap.size (i * 37) (cap + 1 - i) ⟨vb, 0, none⟩ 1 1 37 36 (xs.take (i * 37)) (Z.take 37) (Z.drop 37) ys Tryz.underlying48 sizeH (by rw [List.append_assoc, List.take_append_drop]; exact hW1) hpl
  (by rw [List.length_take, hy]; omega) (by simp [Nat.min_def]; omega) (by omega) hvs1 h1
 have hZ1 : ((Z.drop 37).take ((cap - i) * 37)).length = (xs.drop (i * 37)).length := by simp; omega
 have hcell2 : ∀ j u, (xs.drop (i * 37))[j]? = some u → W2.drew.cell? ((⟨g, i * 37, none⟩ : Addr).add j) = some u := fun j u hj => by
  rw [Addr.add_lit]
  rw [List.getElem?_drop] at hj
  refine hg2.cell (w := W1) (a := ⟨g, i * 37 + j, none⟩) ?_ (by simp; omega)
  rw [hb1.cell (p := ⟨g, _, none⟩) hgl]
  exact hcell _ u hj
 obtain ⟨W3, hr3, hW3, hg3, hs3⟩ := Sl.copy_row (P := Tryz.prog) W2.drew 48 48 36 w.heap.size ((i + 1) * 37) (cap - i) ⟨g, i * 37, none⟩ (cap - i) (cap - i) 37 36 (xs.take (i * 37) ++ ys) ((Z.drop 37).take ((cap - i) * 37)) ((Z.drop 37).drop ((cap - i) * 37)) (xs.drop (i * 37)) Tryz.underlying48 sizeH
  (by rw [List.append_assoc _ _ ((Z.drop 37).drop _), List.take_append_drop]; exact hW2) (by simp [hpl, hy]; omega) hZ1 (by simp ) (by simp; omega) hcell2 (fun u hu => h1x u (List.mem_of_mem_drop hu))
 have hfin : Hid (Sl.OwnsAfter B 36 37 (cap + 1) (xs.take (i * 37) ++ ys ++ xs.drop (i * 37)) w (.returned (.slice (some ⟨w.heap.size, 0, none⟩) (cap + 1) c2)) W3) := by
  refine ⟨_, rfl, Sl.owns_mk hB hW3 (by simp [hy]; omega) hc2 (by unfold maxLen; omega) ?_, ?_⟩
  · simp [hy]; simp [hpl] at hZ; omega
  · exact (((hb1.mono hB).grown hg2 (by omega) (fun k e => by cases e; exact hB)).drew).grown hg3 (by show B ≤ W2.heap.size; omega) (fun k e => by cases e; exact hB)
 clear hcell hcell2 hvs hvs1 hW1 hW2 hW3 hg2 hg3 hg h1x h1 hZ hZ1 hb1 hs1 hs2 hs3 hx hx3 hpl hy hi hz0 hz1 hz2
 go_enter Tryz.func62, Tryz.ntmps62
 go_wp2_with (first
  | (at_builtin; refine Lib.wpList_append_run _ rfl _ _ _ _ rfl _ _ rfl rfl _ _ (hr1 _) ?_)
   | (with_reducible refine Sl.wpList_copy_run _ rfl _ _ _ _ rfl _ _ rfl rfl _ _ (hr2 _ _ _) ?_))
 have hn1 : ¬ (c2 = i + 1) := by omega
 have hn2 : ((i : Int) + 1).toNat = i + 1 := by omega
 have hn3 : IntKind.i64.wrap ((i : Int) + 1) = (i : Int) + 1 := IntWalk.i64_in _ (by omega)
 have hn4 : (0 : Int) ≤ (i : Int) + 1 := by omega
 have hn5 : (i : Int) + 1 ≤ (cap : Int) + 1 := by omega
 have hn6 : (i : Int) ≤ (cap : Int) := by omega
 go_region_law (refine Sl.step_copy_run rfl _ _ 48 48 rfl _ _ (by simp [Act.eval, Act.put]) (by simp [Act.eval, Act.put]) _ _ (hr3 _ _ _) ?_)
 go_wp2
 go_ret
 exact hfin.out


set_option maxRecDepth 20000 in
set_option maxHeartbeats 1000000 in
theorem insertH_shift (B : Nat) (g n i cap : Nat) (xs rest ys : List Value) (w : World) (hBg : B ≤ g) (hgl : g < w.heap.size) (hg : w.heap[g]? = some (.cells (xs ++ rest).toArray 36 (0, 0))) (hx : xs.length = n * 37) (hin : i < n) (_hnc : n ≤ cap) (hcm : cap ≤ maxLen)
 (hroom : n + 1 ≤ cap) (hrest : xs.length + rest.length = cap * 37) (h1x : ∀ u ∈ xs, u.oneCell' = true)
 (vb : Nat) (hvb : w.heap[vb]? = some (.cells ys.toArray 36 (0, 0))) (hvg : vb ≠ g) (hy : ys.length = 37) (h1 : ∀ u ∈ ys, u.oneCell' = true) :
 Calls Tryz.prog 62 #[.slice (some ⟨g, 0, none⟩) n cap, .int .i64 i, .slice (some ⟨vb, 0, none⟩) 1 1] w (Sl.OwnsAfter B 36 37 (n + 1) (xs.take (i * 37) ++ ys ++ xs.drop (i * 37)) w) := by
 unfold maxLen at hcm
 have hpl : (xs.take (i * 37)).length = i * 37 := by rw [List.length_take]; omega
 have hLl : (xs ++ rest).length = cap * 37 := by simpa using hrest
 have hcell : ∀ j u, (xs.drop (i * 37))[j]? = some u → w.drew.cell? ((⟨g, i * 37, none⟩ : Addr).add j) = some u := fun j u hj => by
  rw [Addr.add_lit]
  show w.cell? ⟨g, i * 37 + j, none⟩ = _
  rw [cell_of_row w g _ _ 36 (0, 0) hg]
  rw [List.getElem?_drop] at hj
  have := (List.getElem?_eq_some_iff.1 hj).1
  simpa [List.getElem?_append_left this] using hj
 obtain ⟨W1, hr1, hW1, hg1, hs1⟩ := Sl.copy_row (P := Tryz.prog) w.drew 48 48 36 g ((i + 1) * 37) (n - i) ⟨g, i * 37, none⟩ (n + 1 - i) (n - i) 37 36 ((xs ++ rest).take ((i + 1) * 37)) (((xs ++ rest).drop ((i + 1) * 37)).take ((n - i) * 37)) (((xs ++ rest).drop ((i + 1) * 37)).drop ((n - i) * 37)) (xs.drop (i * 37)) Tryz.underlying48 sizeH
  (by rw [List.append_assoc, List.take_append_drop, List.take_append_drop]; exact hg) (by rw [List.length_take]; omega) (by rw [List.length_take, List.length_drop, List.length_drop]; omega) (by simp [Nat.min_def]; omega) (by rw [List.length_drop]; omega) hcell (fun u hu => h1x u (List.mem_of_mem_drop hu))
 have hsplit : (xs ++ rest).take ((i + 1) * 37) = xs.take (i * 37) ++ ((xs ++ rest).drop (i * 37)).take 37 := by
  rw [show (i + 1) * 37 = i * 37 + 37 by omega, List.take_add, List.take_append_of_le_length (by omega)]
 have hvs1 : ∀ j u, ys[j]? = some u → W1.cell? ((⟨vb, 0, none⟩ : Addr).add j) = some u := fun j u hj => by
  rw [Addr.add_lit, Nat.zero_add]
  refine hg1.cell (w := w.drew) (a := ⟨vb, j, none⟩) ?_ (by simpa using hvg)
  show w.cell? _ = _
  rw [cell_of_row w vb _ _ 36 (0, 0) hvb]
  simpa using hj
 obtain ⟨W2, hr2, hW2, hg2, hs2⟩ := Sl.copy_row (P := Tryz.prog) W1 48 48 36 g (i * 37) (n + 1 - i) ⟨vb, 0, none⟩ 1 1 37 36 (xs.take (i * 37)) (((xs ++ rest).drop (i * 37)).take 37) (xs.drop (i * 37) ++ ((xs ++ rest).drop ((i + 1) * 37)).drop ((n - i) * 37)) ys Tryz.underlying48 sizeH
  (by rw [← hsplit, ← List.append_assoc]; exact hW1) hpl (by rw [List.length_take, List.length_drop, hy]; omega) (by simp [Nat.min_def]; omega) (by omega) hvs1 h1
 have hfin : Hid (Sl.OwnsAfter B 36 37 (n + 1) (xs.take (i * 37) ++ ys ++ xs.drop (i * 37)) w (.returned (.slice (some ⟨g, 0, none⟩) (n + 1) cap)) W2) := by
  refine ⟨_, rfl, Sl.owns_mk hBg (rest := ((xs ++ rest).drop ((i + 1) * 37)).drop ((n - i) * 37)) (by rw [List.append_assoc _ (xs.drop _)]; exact hW2) (by simp [hy]; omega) hroom (by unfold maxLen; omega) ?_, ?_⟩
  · simp only [List.length_append, List.length_drop, List.length_take, hy]; rw [List.length_append] at hLl; omega
  · exact (((Below.refl B w).drew).grown hg1 (by show B ≤ w.heap.size; omega) (fun k e => by cases e; exact hBg)).grown hg2 (by rw [hs1]; show B ≤ w.heap.size; omega) (fun k e => by cases e; exact hBg)
 have hov : ∀ lb cb, (callFunc 102 #[.slice (some ⟨vb, 0, none⟩) 1 1, .slice (some ⟨g, (i + 1) * 37, none⟩) lb cb]).run Tryz.prog w = .ok (.value (.bool false)) w := fun lb cb => by
  rw [run_callFunc_extern Tryz.func102 (by kernel_rfl) (by kernel_rfl) (by kernel_rfl) (e := Extern.SlicesOverlaps.overlaps #[48, 48] #[4]) (by kernel_rfl),
   Lib.run_overlaps_apart w 48 4 36 Tryz.underlying48 37 (fun w => by kernel_rfl) ⟨vb, 0, none⟩ ⟨g, (i + 1) * 37, none⟩ 1 1 lb cb hvg 36 36 37 (cap * 37) (by simp [World.shape?, hvb, hy]) (by simp only [World.shape?, hg]; simpa using hLl) (by omega) (by simp [World.frozen?, hvb]) (by simp [World.frozen?, hvb])]
  rfl
 have hne : ¬ (cap : Int) = (i : Int) := by omega
 have hne2 : ¬ (i : Int) = (n : Int) := by omega
 have hne3 : ¬ cap = i := by omega
 have hne4 : ¬ (cap : Int) < (n : Int) + 1 := by omega
 have hin' : (i : Int) < (n : Int) := by omega
 have hcb : (cap : Int) ≤ 9223372036854775807 := by omega
 have hn1 : ¬ (cap = i + 1) := by omega
 have hn2 : ((i : Int) + 1).toNat = i + 1 := by omega
 have hn3 : IntKind.i64.wrap ((i : Int) + 1) = (i : Int) + 1 := IntWalk.i64_in _ (by omega)
 have hn4 : (0 : Int) ≤ (i : Int) + 1 := by omega
 have hn5 : (i : Int) + 1 ≤ (n : Int) + 1 := by omega
 have hn6 : (i : Int) ≤ (n : Int) + 1 := by omega
 clear hcell hvs1 hW1 hW2 hg2 hg1 hg h1x h1 hs1 hs2 hx hpl hy hLl hrest hsplit hvb
 go_enter Tryz.func62, Tryz.ntmps62
 go_wp2_with (simp only [hov])
 go_region_law (refine Sl.step_copy_run rfl _ _ 48 48 rfl _ _ (by simp [Act.eval, Act.put]) (by simp [Act.eval, Act.put]) _ _ (hr1 _ _ _) ?_)
 go_wp2_with (with_reducible refine Sl.wpList_copy_run _ rfl _ _ _ _ rfl _ _ rfl rfl _ _ (hr2 _ _ _) ?_)
 go_ret
 exact hfin.out


theorem insertH_any (B : Nat) (v : Value) (n i : Nat) (xs ys : List Value) (w : World) (hown : w.ownsRow B 36 37 v n xs) (hin : i ≤ n) (h1x : ∀ u ∈ xs, u.oneCell' = true)
 (vb : Nat) (hvb : w.heap[vb]? = some (.cells ys.toArray 36 (0, 0))) (hvg : ∀ k, v.ownBlock = some k → vb ≠ k) (hy : ys.length = 37) (h1 : ∀ u ∈ ys, u.oneCell' = true) (hB : B ≤ w.heap.size) (hb : (n + 1) * 72 ≤ 140737488355328) :
 Calls Tryz.prog 62 #[v, .int .i64 i, .slice (some ⟨vb, 0, none⟩) 1 1] w (Sl.OwnsAfter B 36 37 (n + 1) (xs.take (i * 37) ++ ys ++ xs.drop (i * 37)) w) := by
 have hvs : ∀ j u, ys[j]? = some u → w.cell? ⟨vb, j, none⟩ = some u := fun j u hj => by
  rw [cell_of_row w vb _ _ 36 (0, 0) hvb]
  simpa using hj
 by_cases hi : i = n
 · subst hi
   have hl := hown.1
   rw [List.take_of_length_le (by omega), List.drop_eq_nil_of_le (by omega), List.append_nil]
   exact insertH_end B v i xs ys w hown vb hy h1 hvs hB hb
 · obtain ⟨g, cap, rest, rfl, hBg, hgl, hg, hnc, hcm, hl⟩ := Sl.owns_row hown (by omega)
   by_cases hroom : n + 1 ≤ cap
   · exact insertH_shift B g n i cap xs rest ys w hBg hgl hg hown.1 (by omega) hnc hcm hroom hl h1x vb hvb (hvg g rfl) hy h1
   · exact insertH_grow B g n i cap xs rest ys w hBg hgl hg hown.1 (by omega) hnc hcm (by omega) h1x vb (Array.getElem?_eq_some_iff.1 hvb).1 hy h1 hvs hB hb

end Go.Proofs.YtnonfdcbnkdmcaaGreatDoor
namespace Go.Vw
def posH (k : Int) : List Hd → Nat
 | [] => 0
 | x :: r => if x.no < k then posH k r + 1 else 0
def hasH (k : Int) : List Hd → Bool
 | [] => false
 | x :: r => if x.no < k then hasH k r else decide (x.no = k)
theorem posH_le (k : Int) : ∀ l, posH k l ≤ l.length
 | [] => Nat.le_refl _
 | x :: r => by unfold posH; split <;> simp; exact posH_le k r
theorem posH_eq {k : Int} : ∀ {l : List Hd} {i : Nat}, i ≤ l.length → (∀ (j : Nat) x, j < i → l[j]? = some x → x.no < k) → (∀ x, l[i]? = some x → k ≤ x.no) → posH k l = i
 | [], i, hi, _, _ => by simp [posH]; simp at hi; omega
 | y :: r, i, hi, hlo, hhi => by
  unfold posH
  cases i with
  | zero =>
   have := hhi y (by simp)
   rw [if_neg (by omega)]
  | succ i =>
   rw [if_pos (hlo 0 y (by omega) (by simp)), posH_eq (l := r) (i := i) (by simpa using hi) (fun j x hj hx => hlo (j + 1) x (by omega) (by simpa using hx)) (fun x hx => hhi x (by simpa using hx))]
theorem hasH_at (k : Int) : ∀ (l : List Hd), hasH k l = match l[posH k l]? with | some x => decide (x.no = k) | none => false
 | [] => rfl
 | y :: r => by
  unfold hasH posH
  split
  · rw [hasH_at k r]; simp
  · simp
theorem insH_has' {h : Hd} : ∀ {l : List Hd}, hasH h.no l = true → insH h l = l
 | [], e => by simp [hasH] at e
 | y :: r, e => by
  unfold hasH at e
  unfold insH
  split
  · rename_i h1
    rw [if_pos h1] at e
    rw [insH_has' e]
  · rename_i h1
    rw [if_neg h1] at e
    rw [if_pos (of_decide_eq_true e)]
theorem insH_new' {h : Hd} : ∀ {l : List Hd}, hasH h.no l = false → insH h l = l.take (posH h.no l) ++ [h] ++ l.drop (posH h.no l)
 | [], e => rfl
 | y :: r, e => by
  unfold hasH at e
  unfold insH posH
  split
  · rename_i h1
    rw [if_pos h1] at e
    rw [insH_new' e]
    simp
  · rename_i h1
    rw [if_neg h1] at e
    rw [if_neg (of_decide_eq_false e)]
    simp
theorem up_lt {l : List Hd} (hp : l.Pairwise (fun a b => a.no < b.no)) {i j : Nat} {x y : Hd} (hij : i < j) (hx : l[i]? = some x) (hy : l[j]? = some y) : x.no < y.no := by
 obtain ⟨hi, rfl⟩ := List.getElem?_eq_some_iff.1 hx
 obtain ⟨hj, rfl⟩ := List.getElem?_eq_some_iff.1 hy
 exact List.pairwise_iff_getElem.1 hp i j hi hj hij
end Go.Vw
namespace Go.Proofs.YtnonfdcbnkdmcaaGreatDoor
open Go.RowKit Go.Mem Go.Shelf
open Go.Vw (Hd posH hasH insH)

set_option maxRecDepth 20000 in
set_option maxHeartbeats 400000 in
theorem acc1_any (h : Hd) (_ok : OkH h) (k : Int) (hk : 0 ≤ k ∧ k ≤ 1000000) (hn : 0 ≤ h.no ∧ h.no ≤ 1000000) (w : World) :
 Calls Tryz.prog 61 #[.agg (hdC h).toArray, .int .i64 k] w (RetI (h.no - k) w) := by
 have c2 := (Blk.new w 36 (hdC h)).at_ (hdC_2 h)
 have hb1 : Hid (Below w.heap.size w (w.alloc (.cells (hdC h).toArray 36))) := (Below.refl _ w).alloc (Nat.le_refl _) _
 obtain ⟨k0, k1⟩ := hk
 obtain ⟨n0, n1⟩ := hn
 have e1 : IntKind.i64.wrap (h.no - k) = h.no - k := IntWalk.i64_in _ (by omega)
 generalize hdC h = r at *
 go_enter Tryz.func61, Tryz.ntmps61
 go_wp2_with fail
 go_ret
 exact ⟨rfl, hb1.out⟩

set_option maxRecDepth 20000 in
set_option maxHeartbeats 1000000 in
theorem bsfH_any (a : Option Addr) (n c : Nat) (l : List Hd) (key : Int) (w : World) (H : HS w a n c l) (hs : l.Pairwise (fun a b => a.no < b.no)) (hk : 0 ≤ key ∧ key ≤ 1000000) (hb0 : ∀ x ∈ l, 0 ≤ x.no ∧ x.no ≤ 1000000) :
 Calls Tryz.prog 60 #[.slice a n c, .int .i64 key, .func (.func 61) #[] #[]] w fun e w' => e = .returned (.tuple #[.int .i64 (posH key l), .bool (hasH key l)]) ∧ Below w.heap.size w w' := by
 have hle := H.rs.le
 have hmx := H.rs.max
 have hn := H.bd
 have hlen := H.rs.len
 have hc1 := Lib.hid (fun h ok hn W => acc1_any h ok key hk hn W)
 have hb0' := Lib.hid hb0
 clear hb0
 go_enter Tryz.func60, Tryz.ntmps60
 go_wp2
 go_loopw [9, 10] (fun iv jv wr => ∃ (i j : Nat), i ≤ j ∧ j ≤ n ∧ iv = .int .i64 i ∧ jv = .int .i64 j ∧ (∀ (p : Nat) t, p < i → l[p]? = some t → t.no < key) ∧ (∀ (p : Nat) t, j ≤ p → l[p]? = some t → key ≤ t.no) ∧ Below w.heap.size w wr)
  (fun i j _ => (intOf j - intOf i).toNat)
 case atStart => exact ⟨0, n, Nat.zero_le _, Nat.le_refl _, rfl, rfl, fun p t hp => absurd hp (by omega), fun p t hp ht => absurd (List.getElem?_eq_some_iff.1 ht).1 (by omega), Below.refl _ _⟩
 case round =>
  obtain ⟨i, j, hij, hjn, rfl, rfl, hlo, hhi, hb⟩ := hrel
  by_cases hlt : i < j
  · have hlt' : (i : Int) < (j : Int) := by omega
    have hm1 : (i + j) / 2 < n := by omega
    have hm2 : i ≤ (i + j) / 2 ∧ (i + j) / 2 < j := by omega
    have hkl : (i + j) / 2 < l.length := by omega
    have hget : l[(i + j) / 2]? = some l[(i + j) / 2] := List.getElem?_eq_getElem hkl
    have hbt := hb0'.out _ (List.mem_of_getElem? hget)
    obtain ⟨b, off, rfl, hbs, ok, hrg⟩ := (H.below hb).get hget
    generalize l[(i + j) / 2] = t at *
    have hrg' := Lib.hid hrg
    have hri := infoHd ok
    have ok' := Lib.hid ok
    have hbt' := Lib.hid hbt
    clear hrg ok hbt
    have hi1 : ((i : Int) + (j : Int)) / 2 < (n : Int) := by omega
    have hi2 : (0 : Int) ≤ ((i : Int) + (j : Int)) / 2 := by omega
    have hi3 : (((i : Int) + (j : Int)) / 2).toNat = (i + j) / 2 := by omega
    by_cases hk : t.no < key
    · have hcm : decide (t.no - key < 0) = true := decide_eq_true (by omega)
      have hlo' : Hid (∀ (p : Nat) u, p < (i + j) / 2 + 1 → l[p]? = some u → u.no < key) := fun p u hp hu => by
       by_cases e : p = (i + j) / 2
       · subst e; rw [hget] at hu; cases hu; exact hk
       · exact Int.lt_trans (Vw.up_lt hs (show p < (i + j) / 2 by omega) hu hget) hk
      have hhi' := Lib.hid hhi
      clear hlo hhi hget hkl hk
      go_wp2_with (first
       | (refine wpList_load_g (by rfl) 36 _ (by rfl) b (off + (i + j) / 2 * 37) (by rfl) (hdC t) _ hrg'.out Tryz.underlying36 (by rfl) hri.out ?_))
      refine (hc1.out _ ok'.out hbt'.out _).mono ?_
      rintro e w1 ⟨rfl, hb1⟩
      go_wp2_with fail
      go_roundw
      case rel => exact ⟨(i + j) / 2 + 1, j, by omega, hjn, by go_num, rfl, hlo'.out, hhi'.out, hb.trans (hb1.mono hb.size)⟩
      case measure => simp [intOf]; omega
    · have hcm : decide (t.no - key < 0) = false := decide_eq_false (by omega)
      have hhi' : Hid (∀ (p : Nat) u, (i + j) / 2 ≤ p → l[p]? = some u → key ≤ u.no) := fun p u hp hu => by
       by_cases e : p = (i + j) / 2
       · subst e; rw [hget] at hu; cases hu; omega
       · have := Vw.up_lt hs (show (i + j) / 2 < p by omega) hget hu; omega
      have hlo' := Lib.hid hlo
      clear hlo hhi hget hkl hk
      go_wp2_with (first
       | (refine wpList_load_g (by rfl) 36 _ (by rfl) b (off + (i + j) / 2 * 37) (by rfl) (hdC t) _ hrg'.out Tryz.underlying36 (by rfl) hri.out ?_))
      refine (hc1.out _ ok'.out hbt'.out _).mono ?_
      rintro e w1 ⟨rfl, hb1⟩
      go_wp2_with fail
      go_roundw
      case rel => exact ⟨i, (i + j) / 2, by omega, by omega, rfl, by go_num, hlo'.out, hhi'.out, hb.trans (hb1.mono hb.size)⟩
      case measure => simp [intOf]; omega
  · obtain rfl : i = j := by omega
    have hpos : posH key l = i := Vw.posH_eq (by omega) hlo (fun x hx => hhi i x (Nat.le_refl _) hx)
    by_cases hin : i < n
    · have hkl : i < l.length := by omega
      have hget : l[i]? = some l[i] := List.getElem?_eq_getElem hkl
      have hbt := hb0'.out _ (List.mem_of_getElem? hget)
      obtain ⟨b, off, rfl, hbs, ok, hrg⟩ := (H.below hb).get hget
      generalize l[i] = t at *
      have hrg' := Lib.hid hrg
      have hri := infoHd ok
      have ok' := Lib.hid ok
      have hbt' := Lib.hid hbt
      have hfin : Hid (Ending.returned (.tuple #[.int .i64 i, .bool (t.no - key == 0)]) = .returned (.tuple #[.int .i64 (posH key l), .bool (hasH key l)])) := by
       rw [Vw.hasH_at, hpos, hget]
       show Ending.returned (.tuple #[.int .i64 i, .bool (decide (t.no - key = 0))]) = Ending.returned (.tuple #[.int .i64 i, .bool (decide (t.no = key))])
       rw [decide_eq_decide.2 (show t.no - key = 0 ↔ t.no = key by omega)]
      have hin' : (i : Int) < (n : Int) := by omega
      have i0 : (0 : Int) ≤ (i : Int) := by omega
      clear hlo hhi hget hkl hpos hrg ok hbt
      go_wp2_with (first
       | (refine wpList_load_g (by rfl) 36 _ (by rfl) b (off + i * 37) (by rfl) (hdC t) _ hrg'.out Tryz.underlying36 (by rfl) hri.out ?_))
      refine (hc1.out _ ok'.out hbt'.out _).mono ?_
      rintro e w1 ⟨rfl, hb1⟩
      go_wp2_with fail
      go_ret2
      exact ⟨hfin.out, hb.trans (hb1.mono hb.size)⟩
    · obtain rfl : i = n := by omega
      have hfin : Hid (Ending.returned (.tuple #[.int .i64 i, .bool false]) = .returned (.tuple #[.int .i64 (posH key l), .bool (hasH key l)])) := by
       rw [Vw.hasH_at, hpos, List.getElem?_eq_none (by omega)]
       rfl
      clear hlo hhi hpos
      go_wp2
      go_ret2
      exact ⟨hfin.out, hb⟩
end Go.Proofs.YtnonfdcbnkdmcaaGreatDoor
namespace Go.Proofs.YtnonfdcbnkdmcaaGreatDoor
open Go.RowKit Go.Mem
theorem DS.take {W : World} {a : Option Addr} {n c k : Nat} {l : List (List Nat)} (h : DS W a n c l) (hk : k ≤ n) : DS W a k c (l.take k) := by
 refine ⟨by rw [List.length_take, h.len]; omega, by have := h.le; omega, h.max, fun e => by have := h.nil e; omega, fun hk0 ad e => ?_, fun x hx => h.ok x (List.mem_of_mem_take hx)⟩
 obtain ⟨b, off, e1, hb, hc⟩ := h.cells (by omega) ad e
 refine ⟨b, off, e1, hb, fun i x hx => hc i x ?_⟩
 have hi : i < k := by have := (List.getElem?_eq_some_iff.1 hx).1; rw [List.length_take] at this; omega
 rwa [List.getElem?_take_of_lt hi] at hx
theorem elemD : Tryz.prog.underlying 47 = some (.slice (Tryz.prog.elem 47)) := by kernel_rfl
theorem sizeOfD (W : World) : (sizeOf (Tryz.prog.elem 47)).run Tryz.prog W = .ok 32 W := by kernel_rfl
theorem dslice_h {W0 : World} {a : Option Addr} {n c k : Nat} {l : List (List Nat)} (h : DS W0 a n c l) (hk : k ≤ n) (W : World) :
 (Instr.sliceAt 47 (.slice a n c) none (some (.int .i64 (k : Int))) none).run Tryz.prog W = .ok (.slice a k c) W := by
 have hle := h.le
 rw [run_sliceAt_slice _ _ _ _ _ _ elemD, run_slice_h _ _ a n c elemD .i64 (k : Int) (by omega) (by omega), sizeOfD, Result.andThen_ok]
 unfold sliced
 simp only [Int.toNat_natCast, Nat.sub_zero, Nat.zero_mul]
 cases a with
 | none => simp
 | some ad =>
  have : ad.add 0 = ad := by unfold Addr.add; cases ad; simp
  simp [this]
end Go.Proofs.YtnonfdcbnkdmcaaGreatDoor
namespace Go.Proofs.YtnonfdcbnkdmcaaGreatDoor
open Go.RowKit Go.Mem Go.Shelf
open Go.Vw (Hd posH hasH insH)

def hdRows (l : List Hd) : List Value := (l.map hdC).flatten
theorem hdRows_sz {l : List Hd} (ok : ∀ h ∈ l, OkH h) : ∀ r ∈ l.map hdC, r.length = 37 := fun r hr => by
 obtain ⟨h, hh, rfl⟩ := List.mem_map.1 hr
 exact hdC_len (ok h hh)
theorem hdRows_len {l : List Hd} (ok : ∀ h ∈ l, OkH h) : (hdRows l).length = l.length * 37 := by
 unfold hdRows
 rw [flat_len (hdRows_sz ok), List.length_map]
theorem hdRows_one {l : List Hd} (ok : ∀ h ∈ l, OkH h) : ∀ u ∈ hdRows l, u.oneCell' = true := fun u hu => by
 obtain ⟨r, hr, hur⟩ := List.mem_flatten.1 hu
 obtain ⟨h, hh, rfl⟩ := List.mem_map.1 hr
 exact (hdC_r (ok h hh)).one u hur
theorem hdRows_ins {l : List Hd} (ok : ∀ h ∈ l, OkH h) (h : Hd) (i : Nat) : (hdRows l).take (i * 37) ++ hdC h ++ (hdRows l).drop (i * 37) = hdRows (l.take i ++ [h] ++ l.drop i) := by
 unfold hdRows
 rw [← flat_take i (hdRows_sz ok), ← flat_drop i (hdRows_sz ok)]
 simp
theorem HS.oks {w : World} {a : Option Addr} {n c : Nat} {l : List Hd} (H : HS w a n c l) : ∀ h ∈ l, OkH h := fun _ hh => H.ok hh
theorem HS.reads {w : World} {a : Option Addr} {n c : Nat} {l : List Hd} (H : HS w a n c l) : Sl.Reads w a n c 37 (hdRows l) := by
 obtain ⟨rows, hR, hO⟩ := H.rs.rows
 have : rows = l.map hdC := by
  apply List.ext_getElem?
  intro i
  rw [List.getElem?_map]
  cases hl : l[i]? with
  | none =>
   rw [List.getElem?_eq_none_iff] at hl
   rw [List.getElem?_eq_none (by rw [hO.len]; exact hl)]
   rfl
  | some h =>
   obtain ⟨r, hr, ⟨_, er⟩, _⟩ := hO.get hl
   rw [hr, er]
   rfl
 rw [this] at hR
 exact hR
theorem hs_own {w : World} {B : Nat} {v : Value} {l : List Hd} (ok : ∀ h ∈ l, OkH h) (h : w.ownsRow B 36 37 v l.length (hdRows l)) (hn : l.length ≤ 100000) : ∃ a c, v = .slice a l.length c ∧ HS w a l.length c l := by
 obtain ⟨a, c, rfl, hR, _⟩ := Sl.of_owns h
 refine ⟨a, c, rfl, ⟨rfl, fun _ _ _ => trivial, l.map hdC, hR, by rw [List.length_map], hdRows_sz ok, fun i e r he hr => ?_⟩, hn⟩
 rw [List.getElem?_map, he] at hr
 cases hr
 exact ⟨ok e (List.mem_of_getElem? he), rfl⟩
theorem hs_one {w : World} {g : Nat} {h : Hd} (ok : OkH h) (hB : Blk w g 36 (hdC h)) : HS w (some ⟨g, 0, none⟩) 1 1 [h] := by
 refine ⟨⟨rfl, fun _ _ _ => trivial, [hdC h], ⟨by rw [List.flatten_singleton, hdC_len ok], Nat.le_refl _, by unfold maxLen; omega, (fun e => by cases e), fun _ => ⟨g, 0, rfl, hB.lt, fun j u hj => ?_⟩⟩, RowsOf.one ⟨ok, rfl⟩ (hdC_len ok)⟩, by omega⟩
 rw [Nat.zero_add]
 exact hB.at_ (by simpa using hj)
theorem hd_slice_g (g : Nat → Nat) (st fo no R S : Int) (W : World) : (Instr.buildSlice 48 1 #[(0, .agg (headC st fo no ((List.range 32).map g) R S).toArray)]).run Tryz.prog W = .ok (.slice (some ⟨W.heap.size, 0, none⟩) 1 1) (W.alloc (.cells (headC st fo no ((List.range 32).map g) R S).toArray 36)) := by kernel_rfl
theorem hd_slice1 {h : Hd} (ok : OkH h) (W : World) : (Instr.buildSlice 48 1 #[(0, .agg (hdC h).toArray)]).run Tryz.prog W = .ok (.slice (some ⟨W.heap.size, 0, none⟩) 1 1) (W.alloc (.cells (hdC h).toArray 36)) := by
 unfold hdC
 rw [as_range ok.ch.1]
 exact hd_slice_g _ _ _ _ _ _ W
end Go.Proofs.YtnonfdcbnkdmcaaGreatDoor
namespace Go.Proofs.YtnonfdcbnkdmcaaGreatDoor
open Go.RowKit Go.Mem
open Go.Vw (Hd eqH)

theorem cellsHd : Tryz.prog.cellsOf 36 = 37 := by kernel_rfl
theorem cellsSg : Tryz.prog.cellsOf 34 = 2 := by kernel_rfl
theorem cellsI : Tryz.prog.cellsOf 3 = 1 := by kernel_rfl
theorem keyTH : Tryz.prog.keyTypeAt 3 36 = true := by kernel_rfl
def litH (h : Hd) : List Lit := [.int .i64 h.st, .int .i64 h.fo, .int .i64 h.no] ++ (digL h.ch ++ [.int .i64 h.R, .int .i64 h.S])
theorem i64_wf {x : Int} (h : I64 x) : (Lit.int .i64 x).wf = true := by
 have e1 : IntKind.i64.min = -9223372036854775808 := rfl
 have e2 : IntKind.i64.max = 9223372036854775807 := rfl
 unfold I64 at h
 simp only [Lit.wf, Bool.and_eq_true, decide_eq_true_eq]
 omega
theorem keyLits_int (D : Nat) {x : Int} (h : I64 x) : Tryz.prog.keyLits (D + 1) 3 [.int .i64 x] = some [.int .i64 x] := by
 unfold Program.keyLits
 rw [Tryz.underlying3]
 simp [i64_wf h]
theorem keyLits_sig (D : Nat) {r s : Int} (hr : I64 r) (hs : I64 s) : Tryz.prog.keyLits (D + 2) 34 [.int .i64 r, .int .i64 s] = some [.int .i64 r, .int .i64 s] := by
 unfold Program.keyLits
 rw [Tryz.underlying34]
 simp only [cellsSg, List.length_cons, List.length_nil]
 simp [cellsI, keyLits_int D hr, keyLits_int D hs]
theorem hdC_parts {h : Hd} (ok : OkH h) : ((hdC h).drop 0).take 1 = [.int .i64 h.st] ∧ ((hdC h).drop 1).take 1 = [.int .i64 h.fo] ∧ ((hdC h).drop 2).take 1 = [.int .i64 h.no] ∧ ((hdC h).drop 3).take 32 = bv h.ch ∧ ((hdC h).drop 35).take 2 = [.int .i64 h.R, .int .i64 h.S] := by
 have hl : (bv h.ch).length = 32 := by rw [bv_length, ok.ch.1]
 unfold hdC headC
 refine ⟨rfl, rfl, rfl, ?_, ?_⟩
 · show List.take 32 (bv h.ch ++ [.int .i64 h.R, .int .i64 h.S]) = _
   rw [List.take_append_of_le_length (by omega), List.take_of_length_le (by omega)]
 · show List.take 2 (List.drop 32 (bv h.ch ++ [.int .i64 h.R, .int .i64 h.S])) = _
   rw [List.drop_append_of_le_length (by omega), List.drop_of_length_le (by omega)]
   rfl
theorem keyLits_hd (D : Nat) {h : Hd} (ok : OkH h) : Tryz.prog.keyLits (D + 3) 36 (hdC h) = some (litH h) := by
 obtain ⟨p0, p1, p2, p3, p4⟩ := hdC_parts ok
 have q0 := keyLits_int (D + 1) ok.st
 have q1 := keyLits_int (D + 1) ok.fo
 have q2 := keyLits_int (D + 1) ok.no
 have q3 := keyLits_dig D ok.ch
 have q4 := keyLits_sig D ok.R ok.S
 unfold Program.keyLits
 rw [Tryz.underlying36]
 have hlen : (hdC h).length = Tryz.prog.cellsOf 36 := by rw [hdC_len ok, cellsHd]
 obtain ⟨cs, hcs⟩ : ∃ cs, cs = hdC h := ⟨_, rfl⟩
 rw [← hcs] at p0 p1 p2 p3 p4 hlen ⊢
 match cs, hlen with
 | [], hl => rw [cellsHd] at hl; cases hl
 | c :: r, hl =>
  simp only [hl]
  rw [if_pos ⟨trivial, by kernel_rfl⟩]
  simp only [List.mapM_cons, List.mapM_nil, cellsI, cells35, cellsSg, p0, p1, p2, p3, p4, q0, q1, q2, q3, q4]
  rfl
theorem litH_inj {a b : Hd} (ha : OkH a) (hb : OkH b) (e : litH a = litH b) : eqH a b = true := by
 unfold litH at e
 simp only [List.cons_append, List.nil_append, List.cons.injEq, Lit.int.injEq, true_and] at e
 obtain ⟨e0, e1, e2, e3⟩ := e
 have hl : (digL a.ch).length = (digL b.ch).length := by simp [digL, ha.ch.1, hb.ch.1]
 obtain ⟨e4, e5⟩ := List.append_inj e3 hl
 simp only [List.cons.injEq, Lit.int.injEq, true_and, and_true] at e5
 unfold eqH
 exact decide_eq_true ⟨e0, e1, e2, digL_inj e4, e5.1, e5.2⟩
theorem eqH_litH {a b : Hd} (e : eqH a b = true) : litH a = litH b := by
 unfold eqH at e
 obtain ⟨e0, e1, e2, e3, e4, e5⟩ := of_decide_eq_true e
 unfold litH
 rw [e0, e1, e2, e3, e4, e5]
theorem eqH_refl (a : Hd) : eqH a a = true := by unfold eqH; exact decide_eq_true ⟨rfl, rfl, rfl, rfl, rfl, rfl⟩
theorem formed_hd {h : Hd} (ok : OkH h) : (Value.agg (hdC h).toArray).formed Tryz.prog 36 = true := by
 simp [Value.formed, hdC_len ok, cellsHd]
theorem eq_head {a b : Hd} (ha : OkH a) (hb : OkH b) (w : World) : (Op.equalIn 10000 36 (.agg (hdC a).toArray) (.agg (hdC b).toArray)).run Tryz.prog w = .ok (eqH a b) w := by
 obtain ⟨r, hr, hiff⟩ := run_equalIn_deep (P := Tryz.prog) 9997 3 36 keyTH w 3 3 (.agg (hdC a).toArray) (.agg (hdC b).toArray) (litH a) (litH b) (formed_hd ha) (formed_hd hb)
  (by simpa [Value.cells] using keyLits_hd 0 ha) (by simpa [Value.cells] using keyLits_hd 0 hb)
 have e : r = eqH a b := by
  rw [Bool.eq_iff_iff, hiff]
  exact ⟨litH_inj ha hb, eqH_litH⟩
 rw [← e]
 exact hr
end Go.Proofs.YtnonfdcbnkdmcaaGreatDoor
namespace Go.Proofs.YtnonfdcbnkdmcaaGreatDoor
open Go.RowKit Go.Mem Go.Shelf
open Go.Sto (Ent)
open Go.Vw (Hd Fk fitsB zeroH zeroF zeroV lastH ownsB validB accuse entOk accV accOk accD posH hasH insH)

def zrV : List Value := [.int .i64 0, .int .i64 0, .int .i64 0, .slice none 0 0, .slice none 0 0]
theorem vm0 (w : World) : VM w zeroV none 0 0 none 0 0 := ⟨i64_0, i64_0, i64_0, ds_nil w, HS.nil0 w, Nat.zero_le _⟩
theorem sizeVw : (Tryz.prog.info? 50).map (·.size) = some 5 := by kernel_rfl
theorem sizeVv : (Tryz.prog.info? 93).map (·.size) = some 5 := by kernel_rfl
theorem view_one (a b c : Int) (x y : Option Addr) (n1 c1 n2 c2 : Nat) : ∀ u ∈ ([.int .i64 a, .int .i64 b, .int .i64 c, .slice x n1 c1, .slice y n2 c2] : List Value), u.oneCell' = true := by
 intro u hu; simp only [List.mem_cons, List.not_mem_nil, or_false] at hu; rcases hu with rfl | rfl | rfl | rfl | rfl <;> rfl
def AccPost (x : Vw.V × Fk × Int) (w : World) (e : Ending) (w' : World) : Prop :=
 ∃ da dn dc ha hn hc fa fn fc, e = .returned (.tuple #[.agg #[.int .i64 x.1.st, .int .i64 x.1.fo, .int .i64 x.1.pub, .slice da dn dc, .slice ha hn hc], .agg (forkC x.2.1 fa fn fc).toArray, .int .i64 x.2.2]) ∧ VM w' x.1 da dn dc ha hn hc ∧ OkF x.2.1 ∧ DS w' fa fn fc x.2.1.ds ∧ fn ≤ 100000 ∧ Below w.heap.size w w'

structure AccB (w : World) (tb : Nat) (rV rH rR rF : List Value) (wz : World) : Prop where
 bV : Blk wz tb 50 rV
 bH : Blk wz (tb + 1) 36 rH
 bR : Blk wz (tb + 1 + 1) 50 rR
 bF : Blk wz (tb + 1 + 1 + 1) 53 rF
 bel : Below w.heap.size w wz
 lo : w.heap.size ≤ tb
section
variable {w wz wq : World} {tb g : Nat} {rV rH rR rF r : List Value}
theorem AccB.below (h : AccB w tb rV rH rR rF wz) (hb : Below wz.heap.size wz wq) : AccB w tb rV rH rR rF wq :=
 ⟨h.bV.below hb h.bV.lt, h.bH.below hb h.bH.lt, h.bR.below hb h.bR.lt, h.bF.below hb h.bF.lt, h.bel.trans (hb.mono h.bel.size), h.lo⟩
theorem AccB.grown (h : AccB w tb rV rH rR rF wz) (hg : wz.grownBy wq none) : AccB w tb rV rH rR rF wq := h.below ((Below.refl _ wz).grown hg (Nat.le_refl _) (fun _ e => by cases e))
theorem AccB.far (h : AccB w tb rV rH rR rF wz) (hg : wz.grownBy wq (some g)) (hne : tb + 1 + 1 + 1 < g) : AccB w tb rV rH rR rF wq :=
 ⟨h.bV.grown hg (fun e => by cases e; omega), h.bH.grown hg (fun e => by cases e; omega), h.bR.grown hg (fun e => by cases e; omega), h.bF.grown hg (fun e => by cases e; omega), below_grown h.bel hg h.bel.size (by have := h.lo; omega), h.lo⟩
theorem AccB.setR (h : AccB w tb rV rH rR rF wz) (hl : r.length = rR.length) : AccB w tb rV rH r rF (wz.setCells (tb + 1 + 1) 0 r) := by
 have hs := storedB h.bR hl
 exact ⟨hs.far h.bV (by omega), hs.far h.bH (by omega), hs.blk, hs.far h.bF (by omega), hs.below h.bel h.bel.size (by have := h.lo; omega), h.lo⟩
theorem AccB.setF (h : AccB w tb rV rH rR rF wz) (hl : r.length = rF.length) : AccB w tb rV rH rR r (wz.setCells (tb + 1 + 1 + 1) 0 r) := by
 have hs := storedB h.bF hl
 exact ⟨hs.far h.bV (by omega), hs.far h.bH (by omega), hs.far h.bR (by omega), hs.blk, hs.below h.bel h.bel.size (by have := h.lo; omega), h.lo⟩
end

theorem DS.grown {W W' : World} {g : Nat} {a : Option Addr} {n c : Nat} {l : List (List Nat)} (h : DS W a n c l) (hg : W.grownBy W' (some g)) (hne : 0 < n → ∀ ad, a = some ad → ad.block ≠ g) : DS W' a n c l :=
 ⟨h.len, h.le, h.max, h.nil, fun hn ad e => by
  obtain ⟨b, off, rfl, hlt, hx⟩ := h.cells hn ad e
  exact ⟨b, off, rfl, Nat.lt_of_lt_of_le hlt hg.size, fun i x hi j u hj => (World.cell?_of_block (hg.block b hlt (fun e2 => hne hn _ e (by cases e2; rfl)))).trans (hx i x hi j u hj)⟩, h.ok⟩
theorem HS.grown {W W' : World} {g : Nat} {a : Option Addr} {n c : Nat} {l : List Hd} (h : HS W a n c l) (hg : W.grownBy W' (some g)) (hne : 0 < n → ∀ ad, a = some ad → ad.block ≠ g) : HS W' a n c l := by
 obtain ⟨rows, hR, hO⟩ := h.rs.rows
 exact ⟨⟨h.rs.len, h.rs.sep, rows, hR.grown hg (fun hn ad e e2 => hne hn ad e (by cases e2; rfl)), hO⟩, h.bd⟩
theorem VM.grown {W W' : World} {g : Nat} {v : Vw.V} {da ha : Option Addr} {dn dc hn hc : Nat} (h : VM W v da dn dc ha hn hc) (hg : W.grownBy W' (some g)) (h1 : 0 < dn → ∀ ad, da = some ad → ad.block ≠ g) (h2 : 0 < hn → ∀ ad, ha = some ad → ad.block ≠ g) : VM W' v da dn dc ha hn hc :=
 ⟨h.st, h.fo, h.pub, h.ds.grown hg h1, h.hs.grown hg h2, h.bd⟩
theorem AccB.belowB {w wz wq : World} {tb B : Nat} {rV rH rR rF : List Value} (h : AccB w tb rV rH rR rF wz) (hb : Below B wz wq) (hB : tb + 1 + 1 + 1 < B) : AccB w tb rV rH rR rF wq :=
 ⟨h.bV.below hb (by omega), h.bH.below hb (by omega), h.bR.below hb (by omega), h.bF.below hb (by omega), h.bel.trans (hb.mono (by have := h.lo; omega)), h.lo⟩
theorem DS.at_lt {W : World} {a : Option Addr} {n c : Nat} {l : List (List Nat)} (h : DS W a n c l) : 0 < n → ∀ ad, a = some ad → ad.block < W.heap.size := fun hn ad e => by
 obtain ⟨b, off, rfl, hlt, _⟩ := h.cells hn ad e
 exact hlt
theorem HS.at_lt {W : World} {a : Option Addr} {n c : Nat} {l : List Hd} (h : HS W a n c l) : 0 < n → ∀ ad, a = some ad → ad.block < W.heap.size := fun hn ad e => by
 obtain ⟨b, off, e2, hlt, _⟩ := h.rs.block_lt hn
 rw [e] at e2
 cases e2
 exact hlt
end Go.Proofs.YtnonfdcbnkdmcaaGreatDoor

