/- views.accuse, Check, New, isEntry views.New, Check, isEntry slices.Clone and slices.Insert at []api.Head slices.BinarySearchFunc at []api.Head by numbers; one head inserted slices of digests: appended to, and their parts rows of heads: what a slice of heads reads as, one head's slice, an owned row as a slice of heads heads compared views.Accept -/
import Derived.Test.YtiionehcmoginaaGreatDoorVld
import Derived.Test.YtiionehcmoginaaGreatDoorCln
import Derived.Deep.QuietTactic
import Derived.BigQuiet
import Derived.Test.YtiionehcmoginaaGreatDoorRgA
import Derived.Test.YtiionehcmoginaaGreatDoorSgA
import Derived.Test.YtiionehcmoginaaGreatDoorVwB
namespace Go.Proofs.YtiionehcmoginaaGreatDoor
open Go.RowKit Go.Mem Go.Shelf
open Go.Vw (Hd Fk fitsB oddP oddI zeroH zeroF lastH ownsB verH validB accuse)

def forkC (f : Fk) (a : Option Addr) (n c : Nat) : List Value := hdC f.a ++ (hdC f.b ++ [.slice a n c])
def zrF : List Value := forkC zeroF none 0 0
structure OkF (f : Fk) : Prop where
 a : OkH f.a
 b : OkH f.b
theorem okF0 : OkF zeroF := ⟨okH0, okH0⟩
theorem forkC_len {f : Fk} (ok : OkF f) (a : Option Addr) (n c : Nat) : (forkC f a n c).length = 75 := by
 unfold forkC
 rw [List.length_append, List.length_append, hdC_len ok.a, hdC_len ok.b]
 rfl
theorem forkC_one {f : Fk} (ok : OkF f) (a : Option Addr) (n c : Nat) : ∀ u ∈ forkC f a n c, u.oneCell' = true := by
 unfold forkC
 intro u hu
 rcases List.mem_append.1 hu with h | h
 · exact (hdC_r ok.a).one u h
 · rcases List.mem_append.1 h with h | h
   · exact (hdC_r ok.b).one u h
   · rw [List.mem_singleton] at h; subst h; rfl
theorem sizeF : (Tryz.prog.info? 48).map (·.size) = some 75 := by kernel_rfl
theorem infoF {f : Fk} (ok : OkF f) (a : Option Addr) (n c : Nat) : Hid ((Tryz.prog.info? 48).map (·.size) = some (forkC f a n c).length) := by show _ = _; rw [forkC_len ok]; exact sizeF
theorem fork_range (g1 g2 : Nat → Nat) (s1 f1 n1 R1 S1 s2 f2 n2 R2 S2 : Int) (a : Option Addr) (n c : Nat) (W : World) :
 (Instr.build 48 #[(0, .agg (headC s1 f1 n1 ((List.range 32).map g1) R1 S1).toArray), (1, .agg (headC s2 f2 n2 ((List.range 32).map g2) R2 S2).toArray), (2, .slice a n c)]).run Tryz.prog W = .ok (.agg (headC s1 f1 n1 ((List.range 32).map g1) R1 S1 ++ (headC s2 f2 n2 ((List.range 32).map g2) R2 S2 ++ [Value.slice a n c])).toArray) W := run_build W _ _ _ (by kernel_rfl)
theorem fork_build {x y : Hd} (hx : OkH x) (hy : OkH y) (ds : List (List Nat)) (a : Option Addr) (n c : Nat) (W : World) :
 (Instr.build 48 #[(0, .agg (hdC x).toArray), (1, .agg (hdC y).toArray), (2, .slice a n c)]).run Tryz.prog W = .ok (.agg (forkC ⟨x, y, ds⟩ a n c).toArray) W := by
 unfold forkC hdC
 simp only []
 rw [as_range hx.ch.1, as_range hy.ch.1]
 exact fork_range _ _ _ _ _ _ _ _ _ _ _ _ a n c W
def AcuPost (x : Fk × Bool) (da : Option Addr) (dn dc : Nat) (ds : List (List Nat)) (w : World) (e : Ending) (w' : World) : Prop :=
 ((x.2 = true ∧ x.1.ds = ds ∧ e = .returned (.tuple #[.agg (forkC x.1 da dn dc).toArray, .bool true])) ∨ (x = (zeroF, false) ∧ e = .returned (.tuple #[.agg zrF.toArray, .bool false]))) ∧ OkF x.1 ∧ Below w.heap.size w w'
theorem accuse_R (v : Vw.V) (hs : List Hd) : accuse v hs = if (oddR hs v.ds).2 then (⟨(oddR hs v.ds).1, lastH v.hs, v.ds⟩, true) else (zeroF, false) := by
 unfold accuse oddR
 cases hs[oddI hs v.ds]? <;> rfl
theorem oddR_ok {w : World} {a : Option Addr} {n c : Nat} {l : List Hd} (H : HS w a n c l) (ds : List (List Nat)) : OkH (oddR l ds).1 := by
 unfold oddR
 cases hq : l[oddI l ds]? with
 | none => exact okH0
 | some h => exact H.ok (List.mem_of_getElem? hq)

set_option maxRecDepth 20000 in
set_option maxHeartbeats 4000000 in
theorem accuse_any (v : Vw.V) (da : Option Addr) (dn dc : Nat) (ha : Option Addr) (hn hc : Nat) (la : Option Addr) (ln lc : Nat) (l : List Hd) (w : World) (HT : Tabs w) (H : VM w v da dn dc ha hn hc) (HL : HS w la ln lc l) :
 Calls Tryz.prog 46 #[.agg #[.int .i64 v.st, .int .i64 v.fo, .int .i64 v.pub, .slice da dn dc, .slice ha hn hc], .slice la ln lc] w (AcuPost (accuse v l) da dn dc v.ds w) := by
 have H' := Lib.hid H; have HT' := Lib.hid HT; have HL' := Lib.hid HL
 have hbd := H.bd
 have ok := oddR_ok HL v.ds
 have okL := H.hs.last
 clear H HT HL
 obtain ⟨tb, htb⟩ : ∃ tb, Hid (w.heap.size = tb) := ⟨_, rfl⟩
 obtain ⟨W1, hW1⟩ : ∃ W1, W1 = (w.alloc (.cells #[.int .i64 v.st, .int .i64 v.fo, .int .i64 v.pub, .slice da dn dc, .slice ha hn hc] 94)).alloc (.cells zrF.toArray 48) := ⟨_, rfl⟩
 have hbv : Hid (Blk W1 tb 94 [.int .i64 v.st, .int .i64 v.fo, .int .i64 v.pub, .slice da dn dc, .slice ha hn hc]) := by rw [hW1, ← htb.out]; exact (Blk.new w _ _).alloc _
 have hbf : Hid (Blk W1 (tb + 1) 48 zrF) := by
  rw [hW1, ← htb.out]
  have := Blk.new (w.alloc (.cells #[.int .i64 v.st, .int .i64 v.fo, .int .i64 v.pub, .slice da dn dc, .slice ha hn hc] 94)) 48 zrF
  rwa [World.size_alloc] at this
 have hb1 : Hid (Below w.heap.size w W1) := by rw [hW1]; exact ((Below.refl _ w).alloc (Nat.le_refl _) _).alloc (by simp) _
 have c3 := hbv.out.at_ (i := 3) rfl
 have hodd := Lib.hid (odd_any la ln lc l da dn dc v.ds W1 (HT'.out.below hb1.out) (HL'.out.below hb1.out) (H'.out.ds.below hb1.out) hbd)
 obtain ⟨X, hX⟩ : ∃ X, X = AcuPost (accuse v l) da dn dc v.ds w := ⟨_, rfl⟩
 rw [← hX]
 rw [accuse_R] at hX
 obtain ⟨V, hV⟩ : ∃ V, Hid (oddR l v.ds = V) := ⟨_, rfl⟩
 rw [hV.out] at hodd hX ok
 obtain ⟨x, b⟩ := V
 clear hV
 simp only [] at ok hX
 have hX' := Lib.hid hX
 have ok' := Lib.hid ok
 clear hX ok
 go_enter Tryz.func46, Tryz.ntmps46
 go_upto_region 1 with fail
 rw [htb.out]
 generalize hWq : (w.alloc _).alloc _ = Wq
 obtain rfl : W1 = Wq := by rw [← hWq, hW1]; rfl
 clear hWq hW1
 go_wp2_with fail
 refine hodd.out.mono ?_
 rintro e w2 ⟨rfl, hb2⟩
 have hb2' := Lib.hid (hb1.out.trans (hb2.mono hb1.out.size))
 have hbv2 := Lib.hid (hbv.out.below hb2 hbv.out.lt)
 have hbf2 := Lib.hid (hbf.out.below hb2 hbf.out.lt)
 clear hb2 hbv hbf hb1 hodd c3
 obtain ⟨W3, hP⟩ := put_row (ty := 36) (Blk.new w2 36 zrH) (x := hdC x) (by rw [hdC_len ok'.out]; rfl) (by rw [hdC_len ok'.out]; exact sizeH) (hdC_r ok'.out).one
 obtain ⟨tq, htq⟩ : ∃ tq, tq = w2.heap.size := ⟨_, rfl⟩
 have hgw : w2.grownBy W3 none := ⟨hP.grown.os, hP.grown.tape, hP.grown.output, Nat.le_trans (by simp) hP.grown.size, fun q hq _ => (hP.grown.block q (by simp; omega) (fun e => by cases e; omega)).trans (Below.heap_alloc w2 _ q hq)⟩
 have hbw3 : Below w2.heap.size w2 W3 := (Below.refl _ w2).grown hgw (Nat.le_refl _) (fun _ e => by cases e)
 have hb3 := Lib.hid (hb2'.out.trans (hbw3.mono hb2'.out.size))
 have hbv3 := Lib.hid (hbv2.out.below hbw3 hbv2.out.lt)
 have hbf3 := Lib.hid (hbf2.out.below hbw3 hbf2.out.lt)
 have hBq : Hid (Blk W3 tq 36 (hdC x)) := by rw [htq]; exact hP.blk
 have hP' := Lib.hid hP
 have hne : tq ≠ tb + 1 := by have := hbf2.out.lt; omega
 clear hP hgw hbw3 hbv2 hbf2 hb2'
 cases b with
 | false =>
  have hst := storedB hbf3.out (vs := zrF) rfl
  have hth := Lib.hid (there_of hbf3.out (vs := zrF) rfl)
  have hone := Lib.hid (forkC_one okF0 none 0 0)
  have hi := infoF okF0 none 0 0
  rw [show forkC zeroF none 0 0 = zrF from rfl] at hone hi
  have hfin : Hid (X (.returned (.tuple #[.agg zrF.toArray, .bool false])) (W3.setCells (tb + 1) 0 zrF)) := by
   rw [hX'.out]
   exact ⟨.inr ⟨rfl, rfl⟩, okF0, hst.below hb3.out hb3.out.size (by rw [htb.out]; omega)⟩
  have hblk := Lib.hid hst.blk
  have hrg := Lib.hid hbf3.out.range
  clear hst hX' hbf3 hbv3
  generalize zrF = rf at *
  generalize hdC x = r at *
  go_wp2_with (first
   | (refine wpList_store_mid (by rfl) 36 _ _ (by rfl) w2.heap.size 0 r.toArray (by rfl) (by rfl) hP'.out.there hP'.out.info (by simpa using hP'.out.one) ?_
      generalize hWq : World.setCells _ _ _ _ = Wa
      obtain rfl : W3 = Wa := by rw [← hWq]; exact hP'.out.eq
      clear hWq)
   | (refine wpList_load_g (by rfl) 48 _ (by rfl) (tb + 1) 0 (by rfl) rf _ hrg.out Tryz.underlying48 (by rfl) hi.out ?_)
   | (refine wpList_store_mid (by rfl) 48 _ _ (by rfl) (tb + 1) 0 rf.toArray (by rfl) (by rfl) hth.out (by rw [List.size_toArray]; exact hi.out) (by simpa using hone.out) ?_))
  exact ret_cell_tmp (fn := Tryz.f46) (p := 4) (u := 5) rfl hblk.out Tryz.underlying48 rfl hi.out rfl rfl rfl hfin.out
 | true =>
  have hlast := Lib.hid (fun W (h : VM W v da dn dc ha hn hc) => last_any v da dn dc ha hn hc W h)
  obtain ⟨y, hy⟩ : ∃ y, Hid (lastH v.hs = y) := ⟨_, rfl⟩
  rw [hy.out] at hlast hX' okL
  have hbuild := fun W => fork_build ok'.out okL v.ds da dn dc W
  have okF : Hid (OkF ⟨x, y, v.ds⟩) := ⟨ok'.out, okL⟩
  have hri := infoHd ok'.out
  clear hy okL
  go_upto_region 4 with (first
   | (refine wpList_store_mid (by rfl) 36 _ _ (by rfl) w2.heap.size 0 (hdC x).toArray (by rfl) (by rfl) hP'.out.there hP'.out.info (by simpa using hP'.out.one) ?_
      generalize hWq : World.setCells _ _ _ _ = Wa
      obtain rfl : W3 = Wa := by rw [← hWq]; exact hP'.out.eq
      clear hWq))
  rw [← htq]
  try simp only [Act.put]
  clear hP' htq
  refine wp_region_held_drew (S := fun wz => Blk wz tb 94 [.int .i64 v.st, .int .i64 v.fo, .int .i64 v.pub, .slice da dn dc, .slice ha hn hc] ∧ Blk wz tq 36 (hdC x) ∧ Below w.heap.size w wz) (by kernel_rfl) (⟨hbv3.out, hBq.out, hb3.out.drew⟩) (fun hHeld => ?_)
  refine tk (i := 0) (oi := ⟨some 18, .load 36 (.tmp 6), 36, "views.go:80", #[], none⟩) rfl (yieldsIf_load_mid (by rfl) _ _ rfl tq 0 rfl (hdC x) _ (fun wz h => h.2.1.range) Tryz.underlying36 rfl (hri.out)) hHeld ?_
  refine tk (i := 1) (oi := ⟨some 19, .load 94 (.tmp 2), 94, "views.go:80", #[], none⟩) (v := ?_) rfl (Or.inl ⟨by rfl, ?_⟩) hHeld ?_
  rotate_left
  · intro wz hSw
    have q0 := hSw.1.at_ (i := 0) rfl
    have q1 := hSw.1.at_ (i := 1) rfl
    have q2 := hSw.1.at_ (i := 2) rfl
    have q3 := hSw.1.at_ (i := 3) rfl
    have q4 := hSw.1.at_ (i := 4) rfl
    go_simp
    all_goals (with_reducible rfl)
  try simp only [Act.put, sA, s0, s1]
  refine tkq (i := 3) (oi := ⟨some 21, .fieldAddr 94 (.tmp 2) 0, 0, "views.go:80", #[], none⟩) rfl hHeld ?_
  refine tkq (i := 4) (oi := ⟨some 22, .fieldAddr 45 (.tmp 21) 3, 0, "views.go:80", #[⟨3, .data⟩], none⟩) rfl hHeld ?_
  refine tk (i := 5) (oi := ⟨some 23, .load 42 (.tmp 22), 42, "views.go:80", #[⟨4, .data⟩], none⟩) (v := ?_) rfl (Or.inl ⟨by rfl, ?_⟩) hHeld ?_
  rotate_left
  · intro wz hSw
    have q0 := hSw.1.at_ (i := 0) rfl
    have q1 := hSw.1.at_ (i := 1) rfl
    have q2 := hSw.1.at_ (i := 2) rfl
    have q3 := hSw.1.at_ (i := 3) rfl
    have q4 := hSw.1.at_ (i := 4) rfl
    go_simp
    all_goals (with_reducible rfl)
  try simp only [Act.put, sA, s0, s1]
  refine rd (rs := [2]) ?_
  refine rc (o := ⟨some 20, .call { callee := .value (.func 82), args := #[.tmp 19], argTypes := #[94] }, 36, "views.go:80", #[⟨1, .data⟩], none⟩) rfl (fun K hK => ?_) rn
  go_simp
  go_at_call 82
  refine (hlast.out _ (H'.out.below hHeld.2.2)).mono ?_
  rintro e w4 ⟨rfl, hb4⟩
  have hbf4 := Lib.hid (hbf3.out.below (w' := w4) ((Below.refl _ W3).drew.trans hb4) hbf3.out.lt)
  refine hK.out _ _ ⟨hHeld.1.below hb4 hHeld.1.lt, hHeld.2.1.below hb4 hHeld.2.1.lt, hHeld.2.2.trans (hb4.mono hHeld.2.2.size)⟩ (fun hHeld => ?_)
  clear hK K
  try simp only [Act.put, sA, s0, s1]
  refine tk (i := 6) (oi := ⟨some 24, .build 48 #[(0, .tmp 18), (1, .tmp 20), (2, .tmp 23)], 48, "views.go:80", #[⟨0, .data⟩, ⟨2, .data⟩, ⟨5, .data⟩], none⟩) rfl (hold_build (by rfl) _ _ rfl #[(0, .agg (hdC x).toArray), (1, .agg (hdC y).toArray), (2, .slice da dn dc)] (by simp only [List.map_toArray, List.map_cons, List.map_nil]; rfl) hbuild) hHeld ?_
  obtain ⟨W5, hQ⟩ := put_row (ty := 48) hbf4.out (x := forkC ⟨x, y, v.ds⟩ da dn dc) (by rw [forkC_len okF.out]; rfl) (by rw [forkC_len okF.out]; exact sizeF) (forkC_one okF.out _ _ _)
  have hB5 := Lib.hid (below_grown hHeld.2.2 hQ.grown hHeld.2.2.size (by rw [htb.out]; omega))
  refine rd (rs := [7]) ?_
  refine rc (o := ⟨none, .store 48 (.tmp 4) (.tmp 24), 0, "views.go:80", #[⟨6, .data⟩, ⟨2, .chain⟩, ⟨0, .phase⟩, ⟨1, .phase⟩, ⟨2, .phase⟩, ⟨3, .phase⟩, ⟨4, .phase⟩, ⟨5, .phase⟩, ⟨6, .phase⟩], none⟩) rfl (fun K hK => ?_) rn
  refine wp_store_mid 48 _ _ rfl (tb + 1) 0 (forkC ⟨x, y, v.ds⟩ da dn dc).toArray (by rfl) (by rfl) hQ.there hQ.info (by simpa using hQ.one) ?_
  generalize hWq : World.setCells _ _ _ _ = Wa
  obtain rfl : W5 = Wa := by rw [← hWq]; exact hQ.eq
  clear hWq
  refine hK.out _ _ ⟨hHeld.1.grown hQ.grown (fun e => by cases e), hHeld.2.1.grown hQ.grown (fun e => hne (by cases e; rfl)), hB5.out⟩ (fun hHeld => ?_)
  clear hK K
  try simp only [Act.put]
  refine tkq (i := 8) (oi := ⟨some 5, .assign (.const (.bool true)), 4, "views.go:80", #[⟨7, .chain⟩, ⟨0, .phase⟩, ⟨1, .phase⟩, ⟨2, .phase⟩, ⟨3, .phase⟩, ⟨4, .phase⟩, ⟨5, .phase⟩, ⟨6, .phase⟩, ⟨7, .phase⟩], none⟩) rfl hHeld ?_
  refine wpAnyH_done (by kernel_rfl) ?_ _
  have hfin : Hid (X (.returned (.tuple #[.agg (forkC ⟨x, y, v.ds⟩ da dn dc).toArray, .bool true])) W5) := by
   rw [hX'.out]
   exact ⟨.inl ⟨rfl, rfl, rfl⟩, okF.out, hHeld.2.2⟩
  have hi := infoF okF.out da dn dc
  have hblk := Lib.hid hQ.blk
  clear hQ hB5 hbuild hbf4 hX'
  generalize forkC ⟨x, y, v.ds⟩ da dn dc = rf at *
  go_wp2_with fail
  exact ret_cell_tmp (fn := Tryz.f46) (p := 4) (u := 5) rfl hblk.out Tryz.underlying48 rfl hi.out rfl rfl rfl hfin.out
end Go.Proofs.YtiionehcmoginaaGreatDoor
namespace Go.Proofs.YtiionehcmoginaaGreatDoor
open Go.RowKit Go.Mem Go.Shelf
open Go.Sto (Ent)
open Go.Vw (entOk validB checkV)

set_option maxRecDepth 20000 in
theorem viewNew_any (st fo pub : Int) (w : World) :
 Calls Tryz.prog 14 #[.int .i64 st, .int .i64 fo, .int .i64 pub] w fun e w' => e = .returned (.agg #[.int .i64 st, .int .i64 fo, .int .i64 pub, .slice none 0 0, .slice none 0 0]) ∧ Below w.heap.size w w' := by
 go_enter Tryz.func14, Tryz.ntmps14
 go_wp2_with fail
 exact ret_cell (fn := Tryz.f14) (p := 6) (r := [.int .i64 st, .int .i64 fo, .int .i64 pub, .slice none 0 0, .slice none 0 0]) rfl (Blk.new w 45 _) Tryz.underlying45 rfl (by kernel_rfl) rfl rfl ⟨rfl, (Below.refl _ w).alloc (Nat.le_refl _) _⟩

set_option maxRecDepth 20000 in
set_option maxHeartbeats 4000000 in
theorem isEntry_any (x : Ent) (ok : OkE x) (a : Option Addr) (n c : Nat) (w : World) (HT : Tabs w) (HD : BW w a n c x.data) :
 Calls Tryz.prog 44 #[.agg (entC x a n c).toArray] w (RetBo (entOk x) w) := by
 have HT' := Lib.hid HT; have HD' := Lib.hid HD
 have hn := HD.len
 clear HT HD
 have hnb : n ≤ 1000000 := by have := ok.data; omega
 have n63 : (n : Int) ≤ 1000000 := by omega
 have hG : EntB (w.alloc (.cells (entC x a n c).toArray 78)) w.heap.size x a n c := EntB.of (t := 78) (Blk.new w _ _) ok.dig
 have hb1 : Hid (Below w.heap.size w (w.alloc (.cells (entC x a n c).toArray 78))) := (Below.refl _ w).alloc (Nat.le_refl _) _
 have c0 := hG.kind
 have c33 := hG.data
 have c34 := hG.gone
 have hdr := Lib.hid hG.dig
 have hdig := Lib.hid (fun W hT hB => digest_any x.kind ⟨ok.lo, ok.hi⟩ a n c x.data W hT hB (by omega))
 have hdi : Hid ((Tryz.prog.info? 32).map (·.size) = some (bv x.dig).length) := by show _ = _; rw [bv_length, ok.dig]; exact size35
 have heq := fun W => eq_dig (x := x.dig) (y := entryD x.kind x.data) ⟨ok.dig, ok.lt⟩ ⟨Sha.tagged_length _ _, Sha.tagged_lt _ _⟩ W
 have hE : entOk x = ((decide (1 ≤ x.kind ∧ x.kind ≤ 7)) && (if x.gone then decide (x.kind = 4) && decide (n = 0) else decide (x.dig = entryD x.kind x.data))) := by rw [← hn]; rfl
 obtain ⟨B0, hB0⟩ : ∃ B, Hid (entOk x = B) := ⟨_, rfl⟩
 rw [hB0.out] at hE ⊢
 obtain ⟨X, hX⟩ : ∃ X, X = RetBo B0 w := ⟨_, rfl⟩
 have hret : Hid (∀ W, Below w.heap.size w W → X (.returned (.bool B0)) W) := fun W h => by rw [hX]; exact ⟨rfl, h⟩
 rw [← hX]
 clear hX hG hB0
 obtain ⟨eq, heqq⟩ : ∃ eq, Hid (decide (x.dig = entryD x.kind x.data) = eq) := ⟨_, rfl⟩
 rw [heqq.out] at heq hE
 clear heqq
 obtain ⟨tb, htb⟩ : ∃ tb, Hid (w.heap.size = tb) := ⟨_, rfl⟩
 rw [htb.out] at c0 c33 c34 hdr
 have hlt : tb < (w.alloc (.cells (entC x a n c).toArray 78)).heap.size := by rw [← htb.out]; simp
 generalize hW1 : w.alloc (.cells (entC x a n c).toArray 78) = W1 at *
 by_cases hk1 : x.kind < 1
 · have hB : B0 = false := by rw [hE, decide_eq_false (by omega)]; rfl
   subst hB
   have g0 : decide (x.kind < 1) = true := decide_eq_true hk1
   clear hE
   go_enter Tryz.func44, Tryz.ntmps44
   go_upto_region 1 with fail
   rw [htb.out]
   have hfin := Lib.hid (hret.out _ hb1.out)
   go_wp2_with fail
   exact hfin.out
 · by_cases hk7 : 7 < x.kind
   · have hB : B0 = false := by rw [hE, decide_eq_false (by omega)]; rfl
     subst hB
     have g0 : decide (x.kind < 1) = false := decide_eq_false hk1
     have g1 : decide (7 < x.kind) = true := decide_eq_true hk7
     clear hE
     go_enter Tryz.func44, Tryz.ntmps44
     go_upto_region 1 with fail
     rw [htb.out]
     have hfin := Lib.hid (hret.out _ hb1.out)
     go_wp2_with fail
     exact hfin.out
   · have g0 : decide (x.kind < 1) = false := decide_eq_false hk1
     have g1 : decide (7 < x.kind) = false := decide_eq_false hk7
     rw [decide_eq_true (by omega), Bool.true_and] at hE
     have hE' := Lib.hid hE
     clear hE
     cases hg : x.gone with
     | true =>
      rw [hg] at c34 hE'
      by_cases hk4 : x.kind = 4
      · have g2 : (x.kind == 4) = true := by simpa using hk4
        have hB : Hid (B0 = decide (n = 0)) := by show _ = _; rw [hE'.out, decide_eq_true hk4]; rfl
        have g3 : ((n : Int) == 0) = B0 := by rw [hB.out]; show decide ((n : Int) = 0) = _; exact decide_eq_decide.2 (by omega)
        clear hB hE' hk4 hk1 hk7
        go_enter Tryz.func44, Tryz.ntmps44
        go_upto_region 1 with fail
        rw [htb.out]
        have hfin := Lib.hid (hret.out _ hb1.out)
        go_wp2_with fail
        exact hfin.out
      · have g2 : (x.kind == 4) = false := by simpa using hk4
        have hB : B0 = false := by rw [hE'.out, decide_eq_false hk4]; rfl
        subst hB
        clear hE' hk4 hk1 hk7
        go_enter Tryz.func44, Tryz.ntmps44
        go_upto_region 1 with fail
        rw [htb.out]
        have hfin := Lib.hid (hret.out _ hb1.out)
        go_wp2_with fail
        exact hfin.out
     | false =>
      rw [hg] at c34 hE'
      have hB : B0 = eq := hE'.out
      subst hB
      clear hE' hk1 hk7
      go_enter Tryz.func44, Tryz.ntmps44
      go_upto_region 1 with fail
      rw [htb.out]
      go_upto_region 5 with fail
      refine wp_region_held_drew (S := fun wz => Below W1.heap.size W1 wz) (by kernel_rfl) ((Below.refl _ W1).drew) (fun hHeld => ?_)
      refine tkq (i := 0) (oi := ⟨some 24, .fieldAddr 78 (.tmp 1) 1, 0, "views.go:104", #[], none⟩) rfl hHeld ?_
      refine tk (i := 1) (oi := ⟨some 25, .load 32 (.tmp 24), 32, "views.go:104", #[⟨0, .data⟩], none⟩) rfl (yieldsIf_load_mid (by rfl) _ _ rfl tb 1 rfl (bv x.dig) _ (fun wz h => fun j v hv => (h.cell (p := ⟨tb, _, none⟩) hlt).trans (hdr.out j v hv)) Tryz.underlying32 rfl (hdi.out)) hHeld ?_
      refine tkq (i := 2) (oi := ⟨some 26, .fieldAddr 78 (.tmp 1) 0, 0, "views.go:104", #[], none⟩) rfl hHeld ?_
      refine tk (i := 3) (oi := ⟨some 27, .load 3 (.tmp 26), 3, "views.go:104", #[⟨2, .data⟩], none⟩) (v := ?_) rfl (Or.inl ⟨by rfl, ?_⟩) hHeld ?_
      rotate_left
      · intro wz hSw
        have q0 := (hSw.cell (p := ⟨tb, 0, none⟩) hlt).trans c0
        have q1 := (hSw.cell (p := ⟨tb, 33, none⟩) hlt).trans c33
        go_simp
        all_goals (with_reducible rfl)
      try simp only [Act.put, sA, s0, s1]
      refine tkq (i := 4) (oi := ⟨some 28, .fieldAddr 78 (.tmp 1) 2, 0, "views.go:104", #[], none⟩) rfl hHeld ?_
      refine tk (i := 5) (oi := ⟨some 29, .load 76 (.tmp 28), 76, "views.go:104", #[⟨4, .data⟩], none⟩) (v := ?_) rfl (Or.inl ⟨by rfl, ?_⟩) hHeld ?_
      rotate_left
      · intro wz hSw
        have q0 := (hSw.cell (p := ⟨tb, 0, none⟩) hlt).trans c0
        have q1 := (hSw.cell (p := ⟨tb, 33, none⟩) hlt).trans c33
        go_simp
        all_goals (with_reducible rfl)
      try simp only [Act.put, sA, s0, s1]
      refine rd (rs := [6]) ?_
      refine rc (o := ⟨some 30, .call { callee := .value (.func 34), args := #[.tmp 27, .tmp 29], argTypes := #[3, 76] }, 32, "views.go:104", #[⟨3, .data⟩, ⟨5, .data⟩], none⟩) rfl (fun K hK => ?_) rn
      go_simp
      go_at_call 34
      refine (hdig.out _ (HT'.out.below (hb1.out.trans (hHeld.mono hb1.out.size))) (HD'.out.below (hb1.out.trans (hHeld.mono hb1.out.size)))).mono ?_
      rintro e w2 ⟨rfl, hb2⟩
      refine hK.out _ _ (hHeld.trans (hb2.mono hHeld.size)) (fun hHeld => ?_)
      clear hK K
      try simp only [Act.put, sA, s0, s1]
      refine tkq (i := 7) (oi := ⟨some 31, .binOp .eql 32 (.tmp 25) (.tmp 30) 32, 4, "views.go:104", #[⟨1, .data⟩, ⟨6, .data⟩], none⟩) rfl hHeld ?_
      refine tkq (i := 8) (oi := ⟨some 2, .assign (.tmp 31), 4, "views.go:104", #[⟨7, .data⟩, ⟨6, .chain⟩, ⟨0, .phase⟩, ⟨1, .phase⟩, ⟨2, .phase⟩, ⟨3, .phase⟩, ⟨4, .phase⟩, ⟨5, .phase⟩, ⟨6, .phase⟩, ⟨7, .phase⟩], none⟩) rfl hHeld ?_
      refine wpAnyH_done (by kernel_rfl) ?_ _
      have hfin := Lib.hid (hret.out _ (hb1.out.trans (hHeld.mono hb1.out.size)))
      go_wp2_with fail
      exact hfin.out
end Go.Proofs.YtiionehcmoginaaGreatDoor
namespace Go.Proofs.YtiionehcmoginaaGreatDoor
open Go.RowKit Go.Mem

theorem infoHz : (Tryz.prog.info? 36).map (fun i => (i.zero, i.size, i.bytes)) = some (some (.agg zrH.toArray), 37, 72) := by kernel_rfl


set_option maxRecDepth 20000 in
set_option maxHeartbeats 1000000 in
theorem cloneH_any (a : Option Addr) (n c : Nat) (xs : List Value) (w : World) (H : Sl.Reads w a n c 37 xs) (h1 : ∀ u ∈ xs, u.oneCell' = true) (hb : n * 72 ≤ 140737488355328) :
 Calls Tryz.prog 50 #[.slice a n c] w (Sl.Owns w.heap.size 36 37 n xs w) := by
 have hnil := fun (W : World) => Lib.run_eql_slice_nil (P := Tryz.prog) W 43 36 a n c 0 0 Tryz.underlying43
 obtain ⟨i0, hi, hz0, hz1, hz2⟩ := info_parts infoHz
 have hlen := H.len
 cases a with
 | none =>
  obtain ⟨rfl, rfl⟩ := H.nil rfl
  have hx : xs = [] := List.eq_nil_of_length_eq_zero (by simpa using hlen)
  subst hx
  clear hlen
  go_enter Tryz.func50, Tryz.ntmps50
  go_wp2
  go_ret
  exact ⟨_, rfl, World.ownsRow_nil _ _ _ _, Below.refl _ _⟩
 | some ad =>
  have hl := Lib.hid hlen
  clear hlen
  have hb' := Lib.hid hb
  clear hb
  go_enter Tryz.func50, Tryz.ntmps50
  go_wp2_with (at_builtin; refine wpList_append_own _ rfl _ _ 43 rfl w.heap.size 36 i0 _ 37 72 Tryz.underlying43 hi hz0 hz1 hz2 rfl (by decide) _ _ _ rfl (World.ownsRow_made (e := 36) (size := 37) w #[] 0 (Nat.le_refl _) (by unfold maxLen; omega) rfl) ad n c xs rfl hl.out (H.below (w' := w.alloc (.cells #[] 36)) ((Below.refl _ w).alloc (Nat.le_refl _) _) (Nat.le_refl _)).news h1 (by have := hb'.out; unfold maxLen; omega) (by have := hb'.out; omega) (by simp) ?_; intro v' w1 hown hgrow _)
  go_ret
  refine ⟨v', rfl, by simpa using hown, ((Below.refl _ w).alloc (Nat.le_refl _) _).grown hgrow (by simp) (fun k e => by cases e; exact Nat.le_refl _)⟩

set_option maxRecDepth 20000 in
set_option maxHeartbeats 1000000 in
theorem insertH_end (B : Nat) (v : Value) (n : Nat) (xs ys : List Value) (w : World) (hown : w.ownsRow B 36 37 v n xs) (vb : Nat) (hy : ys.length = 37) (h1 : ∀ u ∈ ys, u.oneCell' = true)
 (hvs : ∀ j u, ys[j]? = some u → w.cell? ⟨vb, j, none⟩ = some u) (hB : B ≤ w.heap.size) (hb : (n + 1) * 72 ≤ 140737488355328) :
 Calls Tryz.prog 49 #[v, .int .i64 n, .slice (some ⟨vb, 0, none⟩) 1 1] w (Sl.OwnsAfter B 36 37 (n + 1) (xs ++ ys) w) := by
 obtain ⟨i0, hi, hz0, hz1, hz2⟩ := info_parts infoHz
 obtain ⟨a, c, hv, R, hbl⟩ := Sl.of_owns hown
 have hle := R.le
 have hmx := R.max
 unfold maxLen at hmx
 have hown' := Lib.hid hown
 have hv' := Lib.hid hv
 have hvs' : Hid (∀ j u, ys[j]? = some u → w.cell? ((⟨vb, 0, none⟩ : Addr).add j) = some u) := fun j u hj => by rw [Addr.add_lit, Nat.zero_add]; exact hvs j u hj
 have hy' := Lib.hid hy
 have hb' := Lib.hid hb
 have hbl' := Lib.hid hbl
 clear hown hvs hy hb hbl R
 rw [hv]
 clear hv
 go_enter Tryz.func49, Tryz.ntmps49
 go_wp2_with (at_builtin; refine wpList_append_own _ rfl _ _ 43 rfl B 36 i0 _ 37 72 Tryz.underlying43 hi hz0 hz1 hz2 rfl (by decide) _ n xs rfl (hv'.out ▸ hown'.out) ⟨vb, 0, none⟩ 1 1 ys rfl hy'.out hvs'.out h1 (by have := hb'.out; unfold maxLen; omega) hb'.out hB ?_; intro v' w1 hown1 hgrow _)
 all_goals
  go_ret
  exact ⟨v', rfl, hown1, (Below.refl _ _).grown hgrow hB (fun k e => by cases a with
   | none => cases e
   | some ad => cases e; exact (hbl'.out ad rfl).1)⟩


set_option maxRecDepth 20000 in
set_option maxHeartbeats 1000000 in
theorem insertH_grow (B : Nat) (g n i cap : Nat) (xs rest ys : List Value) (w : World) (_hBg : B ≤ g) (hgl : g < w.heap.size) (hg : w.heap[g]? = some (.cells (xs ++ rest).toArray 36 (0, 0))) (hx : xs.length = n * 37) (hin : i < n) (hnc : n ≤ cap) (hcm : cap ≤ maxLen)
 (hfull : cap < n + 1) (h1x : ∀ u ∈ xs, u.oneCell' = true)
 (vb : Nat) (hvb : vb < w.heap.size) (hy : ys.length = 37) (h1 : ∀ u ∈ ys, u.oneCell' = true)
 (hvs : ∀ j u, ys[j]? = some u → w.cell? ⟨vb, j, none⟩ = some u) (hB : B ≤ w.heap.size) (hb : (n + 1) * 72 ≤ 140737488355328) :
 Calls Tryz.prog 49 #[.slice (some ⟨g, 0, none⟩) n cap, .int .i64 i, .slice (some ⟨vb, 0, none⟩) 1 1] w (Sl.OwnsAfter B 36 37 (n + 1) (xs.take (i * 37) ++ ys ++ xs.drop (i * 37)) w) := by
 unfold maxLen at hcm
 obtain rfl : cap = n := by omega
 obtain ⟨i0, hi, hz0, hz1, hz2⟩ := info_parts infoHz
 have hne : ¬ (cap : Int) = (i : Int) := by omega
 have hne2 : ¬ (i : Int) = (cap : Int) := by omega
 have hne3 : ¬ cap = i := by omega
 have hin' : (i : Int) < (cap : Int) := by omega
 have hcb : (cap : Int) ≤ 4398046511104 := by omega
 have hcell : ∀ j u, xs[j]? = some u → w.cell? ⟨g, j, none⟩ = some u := fun j u hj => by
  rw [cell_of_row w g j _ 36 (0, 0) hg]
  have := (List.getElem?_eq_some_iff.1 hj).1
  simpa [List.getElem?_append_left this] using hj
 have hx3 : i * 37 ≤ xs.length := by omega
 obtain ⟨c2, W1, Z, hr1, hc2, hc2m, hW1, hZ, hb1, hs1⟩ := Sl.append_zeros (P := Tryz.prog) w 43 3 36 i0 _ .i64 37 72 Tryz.underlying43 Tryz.underlying3 hi hz0 hz1 hz2 rfl ⟨g, 0, none⟩ i cap (cap + 1 - i) (cap + 1) (xs.take (i * 37)) (by simp; omega)
  (fun j u hj => by rw [Addr.add_lit, Nat.zero_add]; rw [List.getElem?_take] at hj; split at hj; exact hcell j u hj; cases hj) ((cap : Int) + 1 - (i : Int)) (by omega) (by omega) (by omega) (by omega) (by omega) hb (by omega)
 have hpl : (xs.take (i * 37)).length = i * 37 := by rw [List.length_take]; omega
 unfold maxLen at hc2m
 have hvs1 : ∀ j u, ys[j]? = some u → W1.cell? ((⟨vb, 0, none⟩ : Addr).add j) = some u := fun j u hj => by
  rw [Addr.add_lit, Nat.zero_add, hb1.cell (p := ⟨vb, j, none⟩) hvb]; exact hvs j u hj
 obtain ⟨W2, hr2, hW2, hg2, hs2⟩ := Sl.copy_row (P := Tryz.prog) W1 43 43 36 w.heap.size (i * 37) (cap + 1 - i) ⟨vb, 0, none⟩ 1 1 37 36 (xs.take (i * 37)) (Z.take 37) (Z.drop 37) ys Tryz.underlying43 sizeH (by rw [List.append_assoc, List.take_append_drop]; exact hW1) hpl
  (by rw [List.length_take, hy]; omega) (by simp [Nat.min_def]; omega) (by omega) hvs1 h1
 have hZ1 : ((Z.drop 37).take ((cap - i) * 37)).length = (xs.drop (i * 37)).length := by simp; omega
 have hcell2 : ∀ j u, (xs.drop (i * 37))[j]? = some u → W2.drew.cell? ((⟨g, i * 37, none⟩ : Addr).add j) = some u := fun j u hj => by
  rw [Addr.add_lit]
  rw [List.getElem?_drop] at hj
  refine hg2.cell (w := W1) (a := ⟨g, i * 37 + j, none⟩) ?_ (by simp; omega)
  rw [hb1.cell (p := ⟨g, _, none⟩) hgl]
  exact hcell _ u hj
 obtain ⟨W3, hr3, hW3, hg3, hs3⟩ := Sl.copy_row (P := Tryz.prog) W2.drew 43 43 36 w.heap.size ((i + 1) * 37) (cap - i) ⟨g, i * 37, none⟩ (cap - i) (cap - i) 37 36 (xs.take (i * 37) ++ ys) ((Z.drop 37).take ((cap - i) * 37)) ((Z.drop 37).drop ((cap - i) * 37)) (xs.drop (i * 37)) Tryz.underlying43 sizeH
  (by rw [List.append_assoc _ _ ((Z.drop 37).drop _), List.take_append_drop]; exact hW2) (by simp [hpl, hy]; omega) hZ1 (by simp ) (by simp; omega) hcell2 (fun u hu => h1x u (List.mem_of_mem_drop hu))
 have hfin : Hid (Sl.OwnsAfter B 36 37 (cap + 1) (xs.take (i * 37) ++ ys ++ xs.drop (i * 37)) w (.returned (.slice (some ⟨w.heap.size, 0, none⟩) (cap + 1) c2)) W3) := by
  refine ⟨_, rfl, Sl.owns_mk hB hW3 (by simp [hy]; omega) hc2 (by unfold maxLen; omega) ?_, ?_⟩
  · simp [hy]; simp [hpl] at hZ; omega
  · exact (((hb1.mono hB).grown hg2 (by omega) (fun k e => by cases e; exact hB)).drew).grown hg3 (by show B ≤ W2.heap.size; omega) (fun k e => by cases e; exact hB)
 clear hcell hcell2 hvs hvs1 hW1 hW2 hW3 hg2 hg3 hg h1x h1 hZ hZ1 hb1 hs1 hs2 hs3 hx hx3 hpl hy hi hz0 hz1 hz2
 go_enter Tryz.func49, Tryz.ntmps49
 go_wp2_with (first
  | (at_builtin; refine Lib.wpList_append_run _ rfl _ _ _ _ rfl _ _ rfl rfl _ _ (hr1 _) ?_)
  | (with_reducible refine Sl.wpList_copy_run _ rfl _ _ _ _ rfl _ _ rfl rfl _ _ (hr2 _ _ _) ?_))
 have hn1 : ¬ (c2 = i + 1) := by omega
 have hn2 : ((i : Int) + 1).toNat = i + 1 := by omega
 have hn3 : IntKind.i64.wrap ((i : Int) + 1) = (i : Int) + 1 := IntWalk.i64_in _ (by omega)
 have hn4 : (0 : Int) ≤ (i : Int) + 1 := by omega
 have hn5 : (i : Int) + 1 ≤ (cap : Int) + 1 := by omega
 have hn6 : (i : Int) ≤ (cap : Int) := by omega
 go_region_law (refine Sl.step_copy_run rfl _ _ 43 43 rfl _ _ (by simp [Act.eval, Act.put]) (by simp [Act.eval, Act.put]) _ _ (hr3 _ _ _) ?_)
 go_wp2
 go_ret
 exact hfin.out


set_option maxRecDepth 20000 in
set_option maxHeartbeats 1000000 in
theorem insertH_shift (B : Nat) (g n i cap : Nat) (xs rest ys : List Value) (w : World) (hBg : B ≤ g) (hgl : g < w.heap.size) (hg : w.heap[g]? = some (.cells (xs ++ rest).toArray 36 (0, 0))) (hx : xs.length = n * 37) (hin : i < n) (_hnc : n ≤ cap) (hcm : cap ≤ maxLen)
 (hroom : n + 1 ≤ cap) (hrest : xs.length + rest.length = cap * 37) (h1x : ∀ u ∈ xs, u.oneCell' = true)
 (vb : Nat) (hvb : w.heap[vb]? = some (.cells ys.toArray 36 (0, 0))) (hvg : vb ≠ g) (hy : ys.length = 37) (h1 : ∀ u ∈ ys, u.oneCell' = true) :
 Calls Tryz.prog 49 #[.slice (some ⟨g, 0, none⟩) n cap, .int .i64 i, .slice (some ⟨vb, 0, none⟩) 1 1] w (Sl.OwnsAfter B 36 37 (n + 1) (xs.take (i * 37) ++ ys ++ xs.drop (i * 37)) w) := by
 unfold maxLen at hcm
 have hpl : (xs.take (i * 37)).length = i * 37 := by rw [List.length_take]; omega
 have hLl : (xs ++ rest).length = cap * 37 := by simpa using hrest
 have hcell : ∀ j u, (xs.drop (i * 37))[j]? = some u → w.drew.cell? ((⟨g, i * 37, none⟩ : Addr).add j) = some u := fun j u hj => by
  rw [Addr.add_lit]
  show w.cell? ⟨g, i * 37 + j, none⟩ = _
  rw [cell_of_row w g _ _ 36 (0, 0) hg]
  rw [List.getElem?_drop] at hj
  have := (List.getElem?_eq_some_iff.1 hj).1
  simpa [List.getElem?_append_left this] using hj
 obtain ⟨W1, hr1, hW1, hg1, hs1⟩ := Sl.copy_row (P := Tryz.prog) w.drew 43 43 36 g ((i + 1) * 37) (n - i) ⟨g, i * 37, none⟩ (n + 1 - i) (n - i) 37 36 ((xs ++ rest).take ((i + 1) * 37)) (((xs ++ rest).drop ((i + 1) * 37)).take ((n - i) * 37)) (((xs ++ rest).drop ((i + 1) * 37)).drop ((n - i) * 37)) (xs.drop (i * 37)) Tryz.underlying43 sizeH
  (by rw [List.append_assoc, List.take_append_drop, List.take_append_drop]; exact hg) (by rw [List.length_take]; omega) (by rw [List.length_take, List.length_drop, List.length_drop]; omega) (by simp [Nat.min_def]; omega) (by rw [List.length_drop]; omega) hcell (fun u hu => h1x u (List.mem_of_mem_drop hu))
 have hsplit : (xs ++ rest).take ((i + 1) * 37) = xs.take (i * 37) ++ ((xs ++ rest).drop (i * 37)).take 37 := by
  rw [show (i + 1) * 37 = i * 37 + 37 by omega, List.take_add, List.take_append_of_le_length (by omega)]
 have hvs1 : ∀ j u, ys[j]? = some u → W1.cell? ((⟨vb, 0, none⟩ : Addr).add j) = some u := fun j u hj => by
  rw [Addr.add_lit, Nat.zero_add]
  refine hg1.cell (w := w.drew) (a := ⟨vb, j, none⟩) ?_ (by simpa using hvg)
  show w.cell? _ = _
  rw [cell_of_row w vb _ _ 36 (0, 0) hvb]
  simpa using hj
 obtain ⟨W2, hr2, hW2, hg2, hs2⟩ := Sl.copy_row (P := Tryz.prog) W1 43 43 36 g (i * 37) (n + 1 - i) ⟨vb, 0, none⟩ 1 1 37 36 (xs.take (i * 37)) (((xs ++ rest).drop (i * 37)).take 37) (xs.drop (i * 37) ++ ((xs ++ rest).drop ((i + 1) * 37)).drop ((n - i) * 37)) ys Tryz.underlying43 sizeH
  (by rw [← hsplit, ← List.append_assoc]; exact hW1) hpl (by rw [List.length_take, List.length_drop, hy]; omega) (by simp [Nat.min_def]; omega) (by omega) hvs1 h1
 have hfin : Hid (Sl.OwnsAfter B 36 37 (n + 1) (xs.take (i * 37) ++ ys ++ xs.drop (i * 37)) w (.returned (.slice (some ⟨g, 0, none⟩) (n + 1) cap)) W2) := by
  refine ⟨_, rfl, Sl.owns_mk hBg (rest := ((xs ++ rest).drop ((i + 1) * 37)).drop ((n - i) * 37)) (by rw [List.append_assoc _ (xs.drop _)]; exact hW2) (by simp [hy]; omega) hroom (by unfold maxLen; omega) ?_, ?_⟩
  · simp only [List.length_append, List.length_drop, List.length_take, hy]; rw [List.length_append] at hLl; omega
  · exact (((Below.refl B w).drew).grown hg1 (by show B ≤ w.heap.size; omega) (fun k e => by cases e; exact hBg)).grown hg2 (by rw [hs1]; show B ≤ w.heap.size; omega) (fun k e => by cases e; exact hBg)
 have hov : ∀ lb cb, (callFunc 85 #[.slice (some ⟨vb, 0, none⟩) 1 1, .slice (some ⟨g, (i + 1) * 37, none⟩) lb cb]).run Tryz.prog w = .ok (.value (.bool false)) w := fun lb cb => by
  rw [run_callFunc_extern Tryz.func85 (by kernel_rfl) (by kernel_rfl) (by kernel_rfl) (e := Extern.SlicesOverlaps.overlaps #[43, 43] #[4]) (by kernel_rfl),
   Lib.run_overlaps_apart w 43 4 36 Tryz.underlying43 37 (fun w => by kernel_rfl) ⟨vb, 0, none⟩ ⟨g, (i + 1) * 37, none⟩ 1 1 lb cb hvg 36 36 37 (cap * 37) (by simp [World.shape?, hvb, hy]) (by simp only [World.shape?, hg]; simpa using hLl) (by omega) (by simp [World.frozen?, hvb]) (by simp [World.frozen?, hvb])]
  rfl
 have hne : ¬ (cap : Int) = (i : Int) := by omega
 have hne2 : ¬ (i : Int) = (n : Int) := by omega
 have hne3 : ¬ cap = i := by omega
 have hne4 : ¬ (cap : Int) < (n : Int) + 1 := by omega
 have hin' : (i : Int) < (n : Int) := by omega
 have hcb : (cap : Int) ≤ 9223372036854775807 := by omega
 have hn1 : ¬ (cap = i + 1) := by omega
 have hn2 : ((i : Int) + 1).toNat = i + 1 := by omega
 have hn3 : IntKind.i64.wrap ((i : Int) + 1) = (i : Int) + 1 := IntWalk.i64_in _ (by omega)
 have hn4 : (0 : Int) ≤ (i : Int) + 1 := by omega
 have hn5 : (i : Int) + 1 ≤ (n : Int) + 1 := by omega
 have hn6 : (i : Int) ≤ (n : Int) + 1 := by omega
 clear hcell hvs1 hW1 hW2 hg2 hg1 hg h1x h1 hs1 hs2 hx hpl hy hLl hrest hsplit hvb
 go_enter Tryz.func49, Tryz.ntmps49
 go_wp2_with (simp only [hov])
 go_region_law (refine Sl.step_copy_run rfl _ _ 43 43 rfl _ _ (by simp [Act.eval, Act.put]) (by simp [Act.eval, Act.put]) _ _ (hr1 _ _ _) ?_)
 go_wp2_with (with_reducible refine Sl.wpList_copy_run _ rfl _ _ _ _ rfl _ _ rfl rfl _ _ (hr2 _ _ _) ?_)
 go_ret
 exact hfin.out


theorem insertH_any (B : Nat) (v : Value) (n i : Nat) (xs ys : List Value) (w : World) (hown : w.ownsRow B 36 37 v n xs) (hin : i ≤ n) (h1x : ∀ u ∈ xs, u.oneCell' = true)
 (vb : Nat) (hvb : w.heap[vb]? = some (.cells ys.toArray 36 (0, 0))) (hvg : ∀ k, v.ownBlock = some k → vb ≠ k) (hy : ys.length = 37) (h1 : ∀ u ∈ ys, u.oneCell' = true) (hB : B ≤ w.heap.size) (hb : (n + 1) * 72 ≤ 140737488355328) :
 Calls Tryz.prog 49 #[v, .int .i64 i, .slice (some ⟨vb, 0, none⟩) 1 1] w (Sl.OwnsAfter B 36 37 (n + 1) (xs.take (i * 37) ++ ys ++ xs.drop (i * 37)) w) := by
 have hvs : ∀ j u, ys[j]? = some u → w.cell? ⟨vb, j, none⟩ = some u := fun j u hj => by
  rw [cell_of_row w vb _ _ 36 (0, 0) hvb]
  simpa using hj
 by_cases hi : i = n
 · subst hi
   have hl := hown.1
   rw [List.take_of_length_le (by omega), List.drop_eq_nil_of_le (by omega), List.append_nil]
   exact insertH_end B v i xs ys w hown vb hy h1 hvs hB hb
 · obtain ⟨g, cap, rest, rfl, hBg, hgl, hg, hnc, hcm, hl⟩ := Sl.owns_row hown (by omega)
   by_cases hroom : n + 1 ≤ cap
   · exact insertH_shift B g n i cap xs rest ys w hBg hgl hg hown.1 (by omega) hnc hcm hroom hl h1x vb hvb (hvg g rfl) hy h1
   · exact insertH_grow B g n i cap xs rest ys w hBg hgl hg hown.1 (by omega) hnc hcm (by omega) h1x vb (Array.getElem?_eq_some_iff.1 hvb).1 hy h1 hvs hB hb

end Go.Proofs.YtiionehcmoginaaGreatDoor
namespace Go.Vw
def posH (k : Int) : List Hd → Nat
 | [] => 0
 | x :: r => if x.no < k then posH k r + 1 else 0
def hasH (k : Int) : List Hd → Bool
 | [] => false
 | x :: r => if x.no < k then hasH k r else decide (x.no = k)
theorem posH_le (k : Int) : ∀ l, posH k l ≤ l.length
 | [] => Nat.le_refl _
 | x :: r => by unfold posH; split <;> simp; exact posH_le k r
theorem posH_eq {k : Int} : ∀ {l : List Hd} {i : Nat}, i ≤ l.length → (∀ (j : Nat) x, j < i → l[j]? = some x → x.no < k) → (∀ x, l[i]? = some x → k ≤ x.no) → posH k l = i
 | [], i, hi, _, _ => by simp [posH]; simp at hi; omega
 | y :: r, i, hi, hlo, hhi => by
  unfold posH
  cases i with
  | zero =>
   have := hhi y (by simp)
   rw [if_neg (by omega)]
  | succ i =>
   rw [if_pos (hlo 0 y (by omega) (by simp)), posH_eq (l := r) (i := i) (by simpa using hi) (fun j x hj hx => hlo (j + 1) x (by omega) (by simpa using hx)) (fun x hx => hhi x (by simpa using hx))]
theorem hasH_at (k : Int) : ∀ (l : List Hd), hasH k l = match l[posH k l]? with | some x => decide (x.no = k) | none => false
 | [] => rfl
 | y :: r => by
  unfold hasH posH
  split
  · rw [hasH_at k r]; simp
  · simp
theorem insH_has' {h : Hd} : ∀ {l : List Hd}, hasH h.no l = true → insH h l = l
 | [], e => by simp [hasH] at e
 | y :: r, e => by
  unfold hasH at e
  unfold insH
  split
  · rename_i h1
    rw [if_pos h1] at e
    rw [insH_has' e]
  · rename_i h1
    rw [if_neg h1] at e
    rw [if_pos (of_decide_eq_true e)]
theorem insH_new' {h : Hd} : ∀ {l : List Hd}, hasH h.no l = false → insH h l = l.take (posH h.no l) ++ [h] ++ l.drop (posH h.no l)
 | [], e => rfl
 | y :: r, e => by
  unfold hasH at e
  unfold insH posH
  split
  · rename_i h1
    rw [if_pos h1] at e
    rw [insH_new' e]
    simp
  · rename_i h1
    rw [if_neg h1] at e
    rw [if_neg (of_decide_eq_false e)]
    simp
theorem up_lt {l : List Hd} (hp : l.Pairwise (fun a b => a.no < b.no)) {i j : Nat} {x y : Hd} (hij : i < j) (hx : l[i]? = some x) (hy : l[j]? = some y) : x.no < y.no := by
 obtain ⟨hi, rfl⟩ := List.getElem?_eq_some_iff.1 hx
 obtain ⟨hj, rfl⟩ := List.getElem?_eq_some_iff.1 hy
 exact List.pairwise_iff_getElem.1 hp i j hi hj hij
end Go.Vw
namespace Go.Proofs.YtiionehcmoginaaGreatDoor
open Go.RowKit Go.Mem Go.Shelf
open Go.Vw (Hd posH hasH insH)

set_option maxRecDepth 20000 in
set_option maxHeartbeats 400000 in
theorem acc1_any (h : Hd) (_ok : OkH h) (k : Int) (hk : 0 ≤ k ∧ k ≤ 1000000) (hn : 0 ≤ h.no ∧ h.no ≤ 1000000) (w : World) :
 Calls Tryz.prog 48 #[.agg (hdC h).toArray, .int .i64 k] w (RetI (h.no - k) w) := by
 have c2 := (Blk.new w 36 (hdC h)).at_ (hdC_2 h)
 have hb1 : Hid (Below w.heap.size w (w.alloc (.cells (hdC h).toArray 36))) := (Below.refl _ w).alloc (Nat.le_refl _) _
 obtain ⟨k0, k1⟩ := hk
 obtain ⟨n0, n1⟩ := hn
 have e1 : IntKind.i64.wrap (h.no - k) = h.no - k := IntWalk.i64_in _ (by omega)
 generalize hdC h = r at *
 go_enter Tryz.func48, Tryz.ntmps48
 go_wp2_with fail
 go_ret
 exact ⟨rfl, hb1.out⟩

set_option maxRecDepth 20000 in
set_option maxHeartbeats 1000000 in
theorem bsfH_any (a : Option Addr) (n c : Nat) (l : List Hd) (key : Int) (w : World) (H : HS w a n c l) (hs : l.Pairwise (fun a b => a.no < b.no)) (hk : 0 ≤ key ∧ key ≤ 1000000) (hb0 : ∀ x ∈ l, 0 ≤ x.no ∧ x.no ≤ 1000000) :
 Calls Tryz.prog 47 #[.slice a n c, .int .i64 key, .func (.func 48) #[] #[]] w fun e w' => e = .returned (.tuple #[.int .i64 (posH key l), .bool (hasH key l)]) ∧ Below w.heap.size w w' := by
 have hle := H.rs.le
 have hmx := H.rs.max
 have hn := H.bd
 have hlen := H.rs.len
 have hc1 := Lib.hid (fun h ok hn W => acc1_any h ok key hk hn W)
 have hb0' := Lib.hid hb0
 clear hb0
 go_enter Tryz.func47, Tryz.ntmps47
 go_wp2
 go_loopw [9, 10] (fun iv jv wr => ∃ (i j : Nat), i ≤ j ∧ j ≤ n ∧ iv = .int .i64 i ∧ jv = .int .i64 j ∧ (∀ (p : Nat) t, p < i → l[p]? = some t → t.no < key) ∧ (∀ (p : Nat) t, j ≤ p → l[p]? = some t → key ≤ t.no) ∧ Below w.heap.size w wr)
  (fun i j _ => (intOf j - intOf i).toNat)
 case atStart => exact ⟨0, n, Nat.zero_le _, Nat.le_refl _, rfl, rfl, fun p t hp => absurd hp (by omega), fun p t hp ht => absurd (List.getElem?_eq_some_iff.1 ht).1 (by omega), Below.refl _ _⟩
 case round =>
  obtain ⟨i, j, hij, hjn, rfl, rfl, hlo, hhi, hb⟩ := hrel
  by_cases hlt : i < j
  · have hlt' : (i : Int) < (j : Int) := by omega
    have hm1 : (i + j) / 2 < n := by omega
    have hm2 : i ≤ (i + j) / 2 ∧ (i + j) / 2 < j := by omega
    have hkl : (i + j) / 2 < l.length := by omega
    have hget : l[(i + j) / 2]? = some l[(i + j) / 2] := List.getElem?_eq_getElem hkl
    have hbt := hb0'.out _ (List.mem_of_getElem? hget)
    obtain ⟨b, off, rfl, hbs, ok, hrg⟩ := (H.below hb).get hget
    generalize l[(i + j) / 2] = t at *
    have hrg' := Lib.hid hrg
    have hri := infoHd ok
    have ok' := Lib.hid ok
    have hbt' := Lib.hid hbt
    clear hrg ok hbt
    have hi1 : ((i : Int) + (j : Int)) / 2 < (n : Int) := by omega
    have hi2 : (0 : Int) ≤ ((i : Int) + (j : Int)) / 2 := by omega
    have hi3 : (((i : Int) + (j : Int)) / 2).toNat = (i + j) / 2 := by omega
    by_cases hk : t.no < key
    · have hcm : decide (t.no - key < 0) = true := decide_eq_true (by omega)
      have hlo' : Hid (∀ (p : Nat) u, p < (i + j) / 2 + 1 → l[p]? = some u → u.no < key) := fun p u hp hu => by
       by_cases e : p = (i + j) / 2
       · subst e; rw [hget] at hu; cases hu; exact hk
       · exact Int.lt_trans (Vw.up_lt hs (show p < (i + j) / 2 by omega) hu hget) hk
      have hhi' := Lib.hid hhi
      clear hlo hhi hget hkl hk
      go_wp2_with (first
       | (refine wpList_load_g (by rfl) 36 _ (by rfl) b (off + (i + j) / 2 * 37) (by rfl) (hdC t) _ hrg'.out Tryz.underlying36 (by rfl) hri.out ?_))
      refine (hc1.out _ ok'.out hbt'.out _).mono ?_
      rintro e w1 ⟨rfl, hb1⟩
      go_wp2_with fail
      go_roundw
      case rel => exact ⟨(i + j) / 2 + 1, j, by omega, hjn, by go_num, rfl, hlo'.out, hhi'.out, hb.trans (hb1.mono hb.size)⟩
      case measure => simp [intOf]; omega
    · have hcm : decide (t.no - key < 0) = false := decide_eq_false (by omega)
      have hhi' : Hid (∀ (p : Nat) u, (i + j) / 2 ≤ p → l[p]? = some u → key ≤ u.no) := fun p u hp hu => by
       by_cases e : p = (i + j) / 2
       · subst e; rw [hget] at hu; cases hu; omega
       · have := Vw.up_lt hs (show (i + j) / 2 < p by omega) hget hu; omega
      have hlo' := Lib.hid hlo
      clear hlo hhi hget hkl hk
      go_wp2_with (first
       | (refine wpList_load_g (by rfl) 36 _ (by rfl) b (off + (i + j) / 2 * 37) (by rfl) (hdC t) _ hrg'.out Tryz.underlying36 (by rfl) hri.out ?_))
      refine (hc1.out _ ok'.out hbt'.out _).mono ?_
      rintro e w1 ⟨rfl, hb1⟩
      go_wp2_with fail
      go_roundw
      case rel => exact ⟨i, (i + j) / 2, by omega, by omega, rfl, by go_num, hlo'.out, hhi'.out, hb.trans (hb1.mono hb.size)⟩
      case measure => simp [intOf]; omega
  · obtain rfl : i = j := by omega
    have hpos : posH key l = i := Vw.posH_eq (by omega) hlo (fun x hx => hhi i x (Nat.le_refl _) hx)
    by_cases hin : i < n
    · have hkl : i < l.length := by omega
      have hget : l[i]? = some l[i] := List.getElem?_eq_getElem hkl
      have hbt := hb0'.out _ (List.mem_of_getElem? hget)
      obtain ⟨b, off, rfl, hbs, ok, hrg⟩ := (H.below hb).get hget
      generalize l[i] = t at *
      have hrg' := Lib.hid hrg
      have hri := infoHd ok
      have ok' := Lib.hid ok
      have hbt' := Lib.hid hbt
      have hfin : Hid (Ending.returned (.tuple #[.int .i64 i, .bool (t.no - key == 0)]) = .returned (.tuple #[.int .i64 (posH key l), .bool (hasH key l)])) := by
       rw [Vw.hasH_at, hpos, hget]
       show Ending.returned (.tuple #[.int .i64 i, .bool (decide (t.no - key = 0))]) = Ending.returned (.tuple #[.int .i64 i, .bool (decide (t.no = key))])
       rw [decide_eq_decide.2 (show t.no - key = 0 ↔ t.no = key by omega)]
      have hin' : (i : Int) < (n : Int) := by omega
      have i0 : (0 : Int) ≤ (i : Int) := by omega
      clear hlo hhi hget hkl hpos hrg ok hbt
      go_wp2_with (first
       | (refine wpList_load_g (by rfl) 36 _ (by rfl) b (off + i * 37) (by rfl) (hdC t) _ hrg'.out Tryz.underlying36 (by rfl) hri.out ?_))
      refine (hc1.out _ ok'.out hbt'.out _).mono ?_
      rintro e w1 ⟨rfl, hb1⟩
      go_wp2_with fail
      go_ret2
      exact ⟨hfin.out, hb.trans (hb1.mono hb.size)⟩
    · obtain rfl : i = n := by omega
      have hfin : Hid (Ending.returned (.tuple #[.int .i64 i, .bool false]) = .returned (.tuple #[.int .i64 (posH key l), .bool (hasH key l)])) := by
       rw [Vw.hasH_at, hpos, List.getElem?_eq_none (by omega)]
       rfl
      clear hlo hhi hpos
      go_wp2
      go_ret2
      exact ⟨hfin.out, hb⟩
end Go.Proofs.YtiionehcmoginaaGreatDoor
namespace Go
variable {P : Program}
theorem wpList_buildSlice_run {ops : Array Oper} {rest : List Oper} {op : Oper} {a : Act} {w w' : World} {Q : Exit → Act → World → Prop} {v : Value} (hgd : op.guard = none) (t : TypeId) (k : Nat) (parts : Array (Nat × Operand)) (ho : op.op = .buildSlice t k parts) (ps : Array (Nat × Value)) (hp : (parts.map fun (i, x) => (i, a.eval x)) = ps) (hr : (Instr.buildSlice t k ps).run P w = .ok v w')
 (h : wpList P ops Q rest (a.put op.dst v) w') : wpList P ops Q (op :: rest) a w :=
 wpList_plain hgd fun _ hK => by
  unfold Oper.wp execOp
  simp only [ho, hp, Sem.run_bind, hr, Result.andThen_ok, Sem.run_pure]
  exact hK _ _ h
end Go
namespace Go.Proofs.YtiionehcmoginaaGreatDoor
open Go.RowKit Go.Mem
def OwnD (w0 W : World) (v : Value) (ds : List (List Nat)) : Prop := W.ownsRow w0.heap.size 32 32 v ds.length (digRows (ds.map fD)) ∧ ∀ x ∈ ds, x.length = 32 ∧ ∀ u ∈ x, u < 256
theorem OwnD.ds {w0 W : World} {v : Value} {ds : List (List Nat)} (h : OwnD w0 W v ds) : ∃ a c, v = .slice a ds.length c ∧ DS W a ds.length c ds := DS.own h.2 h.1
theorem dig_slice1 {d : List Nat} (hd : d.length = 32) (W : World) : (Instr.buildSlice 42 1 #[(0, .agg (bv d).toArray)]).run Tryz.prog W = .ok (.slice (some ⟨W.heap.size, 0, none⟩) 1 1) (W.alloc (.cells (bv d).toArray 32)) := by
 have h := digs_row (fD d) W
 rwa [rD_fD hd] at h
theorem append_dg {w0 W : World} {v : Value} {ds : List (List Nat)} {d : List Nat} (ho : OwnD w0 W v ds) (hb0 : Below w0.heap.size w0 W) (hd : d.length = 32 ∧ ∀ u ∈ d, u < 256) (hn : ds.length + 1 ≤ 1000000000000) :
 ∃ v' W', (∀ ty, (Builtin.append_ #[42, 42] ty #[v, .slice (some ⟨W.heap.size, 0, none⟩) 1 1]).run Tryz.prog (W.alloc (.cells (bv d).toArray 32)) = .ok v' W') ∧ OwnD w0 W' v' (ds ++ [d]) ∧ Below w0.heap.size w0 W' := by
 obtain ⟨i0, hi, ⟨z, hz0, hzs⟩, hz1, hz2⟩ := info_partsD
 have hown := World.ownsRow.alloc ho.1 (.cells (bv d).toArray 32)
 have hba := hb0.alloc hb0.size (.cells (bv d).toArray 32)
 have hB := Blk.new W 32 (bv d)
 obtain ⟨v', w', hr, h2, h3, _⟩ := run_append_own (P := Tryz.prog) (W.alloc (.cells (bv d).toArray 32)) w0.heap.size 42 0 32 i0 z 32 32 Tryz.underlying42 hi hz0 hz1 hz2 hzs (by omega) v ds.length (digRows (ds.map fD)) hown ⟨W.heap.size, 0, none⟩ 1 1 (bv d) (by rw [bv_length, hd.1]) (fun j u hj => by rw [Addr.add_lit, Nat.zero_add]; exact hB.at_ hj) (bv_one d) (by unfold maxLen; omega) (by omega) hba.size
 refine ⟨v', w', fun ty => ?_, ⟨?_, ?_⟩, hba.grown h3 hba.size (fun r e => (World.ownsRow.lt hown r e).1)⟩
 · rw [← hr]; rfl
 · rw [List.map_append, List.map_cons, List.map_nil, digRows_snoc, rD_fD hd.1, List.length_append]
   exact h2
 · intro x hx
   rcases List.mem_append.1 hx with hx | hx
   · exact ho.2 x hx
   · rw [List.mem_singleton] at hx; subst hx; exact hd
theorem DS.take {W : World} {a : Option Addr} {n c k : Nat} {l : List (List Nat)} (h : DS W a n c l) (hk : k ≤ n) : DS W a k c (l.take k) := by
 refine ⟨by rw [List.length_take, h.len]; omega, by have := h.le; omega, h.max, fun e => by have := h.nil e; omega, fun hk0 ad e => ?_, fun x hx => h.ok x (List.mem_of_mem_take hx)⟩
 obtain ⟨b, off, e1, hb, hc⟩ := h.cells (by omega) ad e
 refine ⟨b, off, e1, hb, fun i x hx => hc i x ?_⟩
 have hi : i < k := by have := (List.getElem?_eq_some_iff.1 hx).1; rw [List.length_take] at this; omega
 rwa [List.getElem?_take_of_lt hi] at hx
end Go.Proofs.YtiionehcmoginaaGreatDoor
namespace Go.Proofs.YtiionehcmoginaaGreatDoor
open Go.RowKit Go.Mem Go.Shelf
open Go.Vw (Hd posH hasH insH)

def hdRows (l : List Hd) : List Value := (l.map hdC).flatten
theorem hdRows_sz {l : List Hd} (ok : ∀ h ∈ l, OkH h) : ∀ r ∈ l.map hdC, r.length = 37 := fun r hr => by
 obtain ⟨h, hh, rfl⟩ := List.mem_map.1 hr
 exact hdC_len (ok h hh)
theorem hdRows_one {l : List Hd} (ok : ∀ h ∈ l, OkH h) : ∀ u ∈ hdRows l, u.oneCell' = true := fun u hu => by
 obtain ⟨r, hr, hur⟩ := List.mem_flatten.1 hu
 obtain ⟨h, hh, rfl⟩ := List.mem_map.1 hr
 exact (hdC_r (ok h hh)).one u hur
theorem hdRows_ins {l : List Hd} (ok : ∀ h ∈ l, OkH h) (h : Hd) (i : Nat) : (hdRows l).take (i * 37) ++ hdC h ++ (hdRows l).drop (i * 37) = hdRows (l.take i ++ [h] ++ l.drop i) := by
 unfold hdRows
 rw [← flat_take i (hdRows_sz ok), ← flat_drop i (hdRows_sz ok)]
 simp
theorem HS.oks {w : World} {a : Option Addr} {n c : Nat} {l : List Hd} (H : HS w a n c l) : ∀ h ∈ l, OkH h := fun _ hh => H.ok hh
theorem HS.reads {w : World} {a : Option Addr} {n c : Nat} {l : List Hd} (H : HS w a n c l) : Sl.Reads w a n c 37 (hdRows l) := by
 obtain ⟨rows, hR, hO⟩ := H.rs.rows
 have : rows = l.map hdC := by
  apply List.ext_getElem?
  intro i
  rw [List.getElem?_map]
  cases hl : l[i]? with
  | none =>
   rw [List.getElem?_eq_none_iff] at hl
   rw [List.getElem?_eq_none (by rw [hO.len]; exact hl)]
   rfl
  | some h =>
   obtain ⟨r, hr, ⟨_, er⟩, _⟩ := hO.get hl
   rw [hr, er]
   rfl
 rw [this] at hR
 exact hR
theorem hs_own {w : World} {B : Nat} {v : Value} {l : List Hd} (ok : ∀ h ∈ l, OkH h) (h : w.ownsRow B 36 37 v l.length (hdRows l)) (hn : l.length ≤ 100000) : ∃ a c, v = .slice a l.length c ∧ HS w a l.length c l := by
 obtain ⟨a, c, rfl, hR, _⟩ := Sl.of_owns h
 refine ⟨a, c, rfl, ⟨rfl, fun _ _ _ => trivial, l.map hdC, hR, by rw [List.length_map], hdRows_sz ok, fun i e r he hr => ?_⟩, hn⟩
 rw [List.getElem?_map, he] at hr
 cases hr
 exact ⟨ok e (List.mem_of_getElem? he), rfl⟩
theorem hs_one {w : World} {g : Nat} {h : Hd} (ok : OkH h) (hB : Blk w g 36 (hdC h)) : HS w (some ⟨g, 0, none⟩) 1 1 [h] := by
 refine ⟨⟨rfl, fun _ _ _ => trivial, [hdC h], ⟨by rw [List.flatten_singleton, hdC_len ok], Nat.le_refl _, by unfold maxLen; omega, (fun e => by cases e), fun _ => ⟨g, 0, rfl, hB.lt, fun j u hj => ?_⟩⟩, RowsOf.one ⟨ok, rfl⟩ (hdC_len ok)⟩, by omega⟩
 rw [Nat.zero_add]
 exact hB.at_ (by simpa using hj)
theorem hd_slice_g (g : Nat → Nat) (st fo no R S : Int) (W : World) : (Instr.buildSlice 43 1 #[(0, .agg (headC st fo no ((List.range 32).map g) R S).toArray)]).run Tryz.prog W = .ok (.slice (some ⟨W.heap.size, 0, none⟩) 1 1) (W.alloc (.cells (headC st fo no ((List.range 32).map g) R S).toArray 36)) := by kernel_rfl
theorem hd_slice1 {h : Hd} (ok : OkH h) (W : World) : (Instr.buildSlice 43 1 #[(0, .agg (hdC h).toArray)]).run Tryz.prog W = .ok (.slice (some ⟨W.heap.size, 0, none⟩) 1 1) (W.alloc (.cells (hdC h).toArray 36)) := by
 unfold hdC
 rw [as_range ok.ch.1]
 exact hd_slice_g _ _ _ _ _ _ W
end Go.Proofs.YtiionehcmoginaaGreatDoor
namespace Go.Proofs.YtiionehcmoginaaGreatDoor
open Go.RowKit Go.Mem
open Go.Vw (Hd eqH)

end Go.Proofs.YtiionehcmoginaaGreatDoor
namespace Go.Proofs.YtiionehcmoginaaGreatDoor
open Go.RowKit Go.Mem Go.Shelf
open Go.Sto (Ent)
open Go.Vw (Hd Fk fitsB zeroH zeroF zeroV lastH ownsB validB accuse entOk accV accOk accD posH hasH insH)

def zrV : List Value := [.int .i64 0, .int .i64 0, .int .i64 0, .slice none 0 0, .slice none 0 0]
theorem vm0 (w : World) : VM w zeroV none 0 0 none 0 0 := ⟨i64_0, i64_0, i64_0, ds_nil w, HS.nil0 w, Nat.zero_le _⟩
theorem sizeVw : (Tryz.prog.info? 45).map (·.size) = some 5 := by kernel_rfl
theorem sizeVv : (Tryz.prog.info? 94).map (·.size) = some 5 := by kernel_rfl
theorem view_one (a b c : Int) (x y : Option Addr) (n1 c1 n2 c2 : Nat) : ∀ u ∈ ([.int .i64 a, .int .i64 b, .int .i64 c, .slice x n1 c1, .slice y n2 c2] : List Value), u.oneCell' = true := by
 intro u hu; simp only [List.mem_cons, List.not_mem_nil, or_false] at hu; rcases hu with rfl | rfl | rfl | rfl | rfl <;> rfl
def AccPost (x : Vw.V × Fk × Int) (w : World) (e : Ending) (w' : World) : Prop :=
 ∃ da dn dc ha hn hc fa fn fc, e = .returned (.tuple #[.agg #[.int .i64 x.1.st, .int .i64 x.1.fo, .int .i64 x.1.pub, .slice da dn dc, .slice ha hn hc], .agg (forkC x.2.1 fa fn fc).toArray, .int .i64 x.2.2]) ∧ VM w' x.1 da dn dc ha hn hc ∧ OkF x.2.1 ∧ DS w' fa fn fc x.2.1.ds ∧ fn ≤ 100000 ∧ Below w.heap.size w w'

structure AccB (w : World) (tb : Nat) (rV rH rR rF : List Value) (wz : World) : Prop where
 bV : Blk wz tb 45 rV
 bH : Blk wz (tb + 1) 36 rH
 bR : Blk wz (tb + 1 + 1) 45 rR
 bF : Blk wz (tb + 1 + 1 + 1) 48 rF
 bel : Below w.heap.size w wz
 lo : w.heap.size ≤ tb
section
variable {w wz wq : World} {tb g : Nat} {rV rH rR rF r : List Value}
theorem AccB.below (h : AccB w tb rV rH rR rF wz) (hb : Below wz.heap.size wz wq) : AccB w tb rV rH rR rF wq :=
 ⟨h.bV.below hb h.bV.lt, h.bH.below hb h.bH.lt, h.bR.below hb h.bR.lt, h.bF.below hb h.bF.lt, h.bel.trans (hb.mono h.bel.size), h.lo⟩
theorem AccB.grown (h : AccB w tb rV rH rR rF wz) (hg : wz.grownBy wq none) : AccB w tb rV rH rR rF wq := h.below ((Below.refl _ wz).grown hg (Nat.le_refl _) (fun _ e => by cases e))
theorem AccB.far (h : AccB w tb rV rH rR rF wz) (hg : wz.grownBy wq (some g)) (hne : tb + 1 + 1 + 1 < g) : AccB w tb rV rH rR rF wq :=
 ⟨h.bV.grown hg (fun e => by cases e; omega), h.bH.grown hg (fun e => by cases e; omega), h.bR.grown hg (fun e => by cases e; omega), h.bF.grown hg (fun e => by cases e; omega), below_grown h.bel hg h.bel.size (by have := h.lo; omega), h.lo⟩
theorem AccB.setR (h : AccB w tb rV rH rR rF wz) (hl : r.length = rR.length) : AccB w tb rV rH r rF (wz.setCells (tb + 1 + 1) 0 r) := by
 have hs := storedB h.bR hl
 exact ⟨hs.far h.bV (by omega), hs.far h.bH (by omega), hs.blk, hs.far h.bF (by omega), hs.below h.bel h.bel.size (by have := h.lo; omega), h.lo⟩
theorem AccB.setF (h : AccB w tb rV rH rR rF wz) (hl : r.length = rF.length) : AccB w tb rV rH rR r (wz.setCells (tb + 1 + 1 + 1) 0 r) := by
 have hs := storedB h.bF hl
 exact ⟨hs.far h.bV (by omega), hs.far h.bH (by omega), hs.far h.bR (by omega), hs.blk, hs.below h.bel h.bel.size (by have := h.lo; omega), h.lo⟩
end

theorem DS.grown {W W' : World} {g : Nat} {a : Option Addr} {n c : Nat} {l : List (List Nat)} (h : DS W a n c l) (hg : W.grownBy W' (some g)) (hne : 0 < n → ∀ ad, a = some ad → ad.block ≠ g) : DS W' a n c l :=
 ⟨h.len, h.le, h.max, h.nil, fun hn ad e => by
  obtain ⟨b, off, rfl, hlt, hx⟩ := h.cells hn ad e
  exact ⟨b, off, rfl, Nat.lt_of_lt_of_le hlt hg.size, fun i x hi j u hj => (World.cell?_of_block (hg.block b hlt (fun e2 => hne hn _ e (by cases e2; rfl)))).trans (hx i x hi j u hj)⟩, h.ok⟩
theorem HS.grown {W W' : World} {g : Nat} {a : Option Addr} {n c : Nat} {l : List Hd} (h : HS W a n c l) (hg : W.grownBy W' (some g)) (hne : 0 < n → ∀ ad, a = some ad → ad.block ≠ g) : HS W' a n c l := by
 obtain ⟨rows, hR, hO⟩ := h.rs.rows
 exact ⟨⟨h.rs.len, h.rs.sep, rows, hR.grown hg (fun hn ad e e2 => hne hn ad e (by cases e2; rfl)), hO⟩, h.bd⟩
theorem VM.grown {W W' : World} {g : Nat} {v : Vw.V} {da ha : Option Addr} {dn dc hn hc : Nat} (h : VM W v da dn dc ha hn hc) (hg : W.grownBy W' (some g)) (h1 : 0 < dn → ∀ ad, da = some ad → ad.block ≠ g) (h2 : 0 < hn → ∀ ad, ha = some ad → ad.block ≠ g) : VM W' v da dn dc ha hn hc :=
 ⟨h.st, h.fo, h.pub, h.ds.grown hg h1, h.hs.grown hg h2, h.bd⟩
theorem AccB.belowB {w wz wq : World} {tb B : Nat} {rV rH rR rF : List Value} (h : AccB w tb rV rH rR rF wz) (hb : Below B wz wq) (hB : tb + 1 + 1 + 1 < B) : AccB w tb rV rH rR rF wq :=
 ⟨h.bV.below hb (by omega), h.bH.below hb (by omega), h.bR.below hb (by omega), h.bF.below hb (by omega), h.bel.trans (hb.mono (by have := h.lo; omega)), h.lo⟩
theorem DS.at_lt {W : World} {a : Option Addr} {n c : Nat} {l : List (List Nat)} (h : DS W a n c l) : 0 < n → ∀ ad, a = some ad → ad.block < W.heap.size := fun hn ad e => by
 obtain ⟨b, off, rfl, hlt, _⟩ := h.cells hn ad e
 exact hlt
theorem HS.at_lt {W : World} {a : Option Addr} {n c : Nat} {l : List Hd} (h : HS W a n c l) : 0 < n → ∀ ad, a = some ad → ad.block < W.heap.size := fun hn ad e => by
 obtain ⟨b, off, e2, hlt, _⟩ := h.rs.block_lt hn
 rw [e] at e2
 cases e2
 exact hlt
end Go.Proofs.YtiionehcmoginaaGreatDoor

