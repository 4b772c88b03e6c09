/- what a row's arguments are: listings, roots, directories, watches -/
import Derived.Test.YthhblcbnnmoojaaGreatDoorRd
import Derived.Test.YthhblcbnnmoojaaGreatDoorRb
import Derived.Test.YthhblcbnnmoojaaGreatDoorRa
import Derived.Test.YthhblcbnnmoojaaGreatDoorRows
import Derived.Test.YthhblcbnnmoojaaGreatDoorCards
import Derived.Test.YthhblcbnnmoojaaGreatDoorTie
import Derived.SevenTiedAt
import Derived.Deep.DeepHandedRow
import Derived.Deep.DeepWitnessRowRef
import Derived.ProofKit
import Derived.LaidMore
import Derived.OpenShut
import Derived.ChangeOld
import Derived.Lib.SmallJoins
import Derived.Deep.Slices
import Derived.Deep.Strs
import Derived.Stop.Joined
namespace Go.Dr
def exL : Lst := ⟨3, 4, 16, 1, false⟩
theorem ok16 : Grp.ok 16 = true := by
  have h := Grp.ok_pw Grp.base_ord 2
  have e : Grp.pw 4 2 = 16 := by decide
  rw [e] at h
  exact h
theorem ok0 : Grp.ok 0 = false := by unfold Grp.ok; rw [decide_eq_false_iff_not]; omega
theorem exL_fits : fitsB exL = true := by
  have h4 := Go.Proofs.YthhblcbnnmoojaaGreatDoor.base_ok
  have h16 := ok16
  unfold fitsB exL
  rw [h4, h16]
  rfl
theorem zeroL_fits : fitsB zeroL = false := by unfold fitsB zeroL; simp
open Go.Proofs.YthhblcbnnmoojaaGreatDoor (OkQ keyOk I64)
/-- the example of the chapter. -/
structure Dex (b pub : Int) (r : Rt) : Prop where
  set : setD b ⟨5, [], []⟩ exL = (⟨5, [exL], [r]⟩, 0)
  set0 : setD b ⟨5, [], []⟩ zeroL = (zeroDir, 350)
  no : r.no = 1
  prev : r.prev = zd
  dig : r.dig = rootD [exL]
  sg : signedB b pub r = true
  sg0 : signedB b pub zeroR = false
theorem key5 : keyOk 5 = true := by decide
theorem chk0 : chkL [] = true := rfl
theorem ins0 : insL exL [] = [exL] := rfl
theorem dex_there {b : Int} (hb : Grp.ok b = true) : ∃ r, Dex b (Go.Proofs.YthhblcbnnmoojaaGreatDoor.pubB b 5) r := by
  refine ⟨nextR b ⟨5, [exL], []⟩, ?_, ?_, rfl, rfl, rfl, next_signed (D := ⟨5, [exL], []⟩) hb key5 (by decide), ?_⟩
  · unfold setD
    rw [if_pos key5, if_pos chk0, if_pos (by rw [exL_fits]; rfl)]
    unfold tickD
    rw [if_pos key5, if_pos (show chkL (insL exL []) = true from chk_insL exL_fits chk0), if_pos (by decide)]
    simp only [ins0, List.nil_append]
  · unfold setD
    rw [if_pos key5, if_pos chk0, if_neg (by rw [zeroL_fits]; simp)]
  · unfold signedB zeroR
    rw [decide_eq_false (by show ¬ (1 ≤ (0 : Int) ∧ (0 : Int) ≤ 65536); omega)]; rfl
theorem ex_chk : chkL [exL] = true := by
  have h := chk_insL exL_fits chk0
  rw [ins0] at h
  exact h
theorem ex_path : verP (rootD [exL]) exL false (pathD [exL] 3) = true := by
  have h := change (l := []) (x := exL) (by decide)
  rw [ins0] at h
  exact h
theorem ex_other : verP (rootD [exL]) ⟨4, 0, 0, 0, false⟩ true (pathD [exL] 4) = true := by
  have := proves (l := [exL]) (dev := 4) (by decide) (x := ⟨4, 0, 0, 0, false⟩) (listed := false) (.inr ⟨by decide, rfl, rfl⟩)
  exact this
end Go.Dr
namespace Go.Proofs.YthhblcbnnmoojaaGreatDoor
open Go.RowKit Go.Mem
open Go.Dr (Lst Rt Dir exL)

/-- a long load under a guard that holds. -/
theorem wpList_load_gd {P : Program} {ops : Array Oper} {rest : List Oper} {op : Oper} {a : Act} {w : World} {Q : Exit → Act → World → Prop} (hw : Region.wanted op (yielded ops a.tmps) = true) (ty : TypeId) (x : Operand) (ho : op.op = .load ty x)
    (b o : Nat) (hx : a.eval x = .pointer (some ⟨b, o, none⟩)) (cs : List Value) (d : TypeDesc) (hc : w.rangeAt b o cs)
    (hu : P.underlying ty = some d) (hd : d.isRow = true) (hi : (P.info? ty).map (·.size) = some cs.length)
    (h : wpList P ops Q rest (a.put op.dst (.agg cs.toArray)) w) : wpList P ops Q (op :: rest) a w :=
  BigFrame.wpList_want hw fun _ hK => wp_load_mid ty x ho b o hx cs d hc hu hd hi (hK _ _ h)
theorem ownD_ds {w : World} {B : Nat} {v : Value} {ds : List (List Nat)} (h : OwnD B w v ds) : ∃ a c, v = .slice a ds.length c ∧ DS w a ds.length c ds := by
  obtain ⟨a, c, rfl, hR, hs⟩ := Sl.of_owns h.1
  refine ⟨a, c, rfl, rfl, hR.le, by have := hR.max; unfold maxLen at this; omega, fun e => (hR.nil e).1, fun hn ad e => ?_, h.2⟩
  obtain ⟨b, off, e2, hlt, hc⟩ := hR.cells hn
  rw [e] at e2
  cases e2
  refine ⟨b, off, rfl, hlt, fun i x hi j v hv => ?_⟩
  have hsz : ∀ r ∈ ds.map bv, r.length = 32 := by intro r hr; obtain ⟨d, hd, rfl⟩ := List.mem_map.1 hr; rw [bv_length]; exact (h.2 d hd).1
  have := hc (i * 32 + j) v (flat_get hsz (by rw [List.getElem?_map, hi]; rfl) hv)
  rw [Nat.add_assoc, Nat.mul_comm 32]
  exact this
theorem dr_one (p : Int) (a : Option Addr) (n c : Nat) (b : Option Addr) (m d : Nat) : ∀ u ∈ dirC p a n c b m d, u.oneCell' = true := by intro u hu; simp only [dirC, List.mem_cons, List.not_mem_nil, or_false] at hu; rcases hu with rfl | rfl | rfl <;> rfl
theorem dm_new (p : Int) (hp : I64 p) (w : World) : DM (fun _ => True) w ⟨p, [], []⟩ none 0 0 none 0 0 := ⟨hp, RS.nil0 _ _ _, RS.nil0 _ _ _⟩
theorem okL_ex : OkG exL := ⟨⟨by decide, by decide⟩, ⟨by decide, by decide⟩, ⟨by decide, by decide⟩, ⟨by decide, by decide⟩⟩
theorem okL_zero : OkG Go.Dr.zeroL := ⟨i64_0, i64_0, i64_0, i64_0⟩
def zdV : List Value := dirC 0 none 0 0 none 0 0

/-- Set, Prove, where the answer is known. -/
theorem set_at {D E : Dir} {x : Lst} {la : Option Addr} {ln lc : Nat} {ra : Option Addr} {rn rc : Nat} {w : World} (h : Go.Dr.setD 4 D x = (E, 0)) (hx : OkG x) (HT : Tabs w) (H : DM (fun _ => True) w D la ln lc ra rn rc) :
    Calls Tryz.prog 17 #[.agg (dirC D.priv la ln lc ra rn rc).toArray, .agg (gC x).toArray] w (fun e w' => ∃ a c b d, e = .returned (.tuple #[.agg (dirC E.priv a E.ls.length c b E.rs.length d).toArray, .int .i64 0]) ∧ DM (fun b => w.heap.size ≤ b) w' E a E.ls.length c b E.rs.length d ∧ Below w.heap.size w w') := by
  have h1 := set_any (fun _ => True) D la ln lc ra rn rc x hx w HT H
  rw [h] at h1
  refine h1.mono ?_
  rintro e w' (⟨_, a, n, c, b, m, d, rfl, hD, hb⟩ | ⟨h0, _⟩)
  · obtain rfl : E.ls.length = n := RS.len hD.gs
    obtain rfl : E.rs.length = m := RS.len hD.qs
    exact ⟨a, c, b, d, rfl, hD, hb⟩
  · exact absurd rfl h0
theorem set_no {D E : Dir} {x : Lst} {q : Int} {la : Option Addr} {ln lc : Nat} {ra : Option Addr} {rn rc : Nat} {w : World} (h : Go.Dr.setD 4 D x = (E, q)) (hq : q ≠ 0) (hx : OkG x) (HT : Tabs w) (H : DM (fun _ => True) w D la ln lc ra rn rc) :
    Calls Tryz.prog 17 #[.agg (dirC D.priv la ln lc ra rn rc).toArray, .agg (gC x).toArray] w (fun e w' => e = .returned (.tuple #[.agg zdV.toArray, .int .i64 q]) ∧ Below w.heap.size w w') := by
  have h1 := set_any (fun _ => True) D la ln lc ra rn rc x hx w HT H
  rw [h] at h1
  refine h1.mono ?_
  rintro e w' (⟨h0, _⟩ | ⟨_, rfl, hb⟩)
  · exact absurd h0 hq
  · exact ⟨rfl, hb⟩
theorem prove_at {l : List Lst} {dev : Int} (hd : 0 ≤ dev ∧ dev < 512) {a : Option Addr} {n c : Nat} {w : World} (HT : Tabs w) (H : GS (fun _ => True) w a n c l) :
    Calls Tryz.prog 40 #[.slice a n c, .int .i64 dev] w (fun e w' => ∃ v d, e = .returned (.tuple #[.slice v 9 d, .int .i64 0]) ∧ DS w' v 9 d (Go.Dr.pathD l dev) ∧ Below w.heap.size w w') := by
  refine (prove_any (fun _ => True) a n c l dev ⟨by omega, by omega⟩ w HT H).mono ?_
  rintro e w' (⟨_, _, v, rfl, ho, hb⟩ | ⟨h, _⟩)
  · obtain ⟨v2, d, rfl, hS⟩ := ownD_ds ho
    have hl : (Go.Dr.pathD l dev).length = 9 := Go.Dr.pathGo_length _ _ _ _
    rw [hl] at hS ⊢
    exact ⟨v2, d, rfl, hS, hb⟩
  · exact absurd hd h
theorem prove_no {l : List Lst} {dev : Int} (hi : I64 dev) (hd : ¬ (0 ≤ dev ∧ dev < 512)) {a : Option Addr} {n c : Nat} {w : World} (HT : Tabs w) (H : GS (fun _ => True) w a n c l) :
    Calls Tryz.prog 40 #[.slice a n c, .int .i64 dev] w (fun e w' => e = .returned (.tuple #[.slice none 0 0, .int .i64 200]) ∧ Below w.heap.size w w') := by
  refine (prove_any (fun _ => True) a n c l dev hi w HT H).mono ?_
  rintro e w' (⟨h1, h2, _⟩ | ⟨_, rfl, hb⟩)
  · exact absurd ⟨h1, h2⟩ hd
  · exact ⟨rfl, hb⟩
theorem new_at {k : Int} (hk : keyOk k = true) (w : World) : Calls Tryz.prog 15 #[.int .i64 k] w (fun e w' => e = .returned (.tuple #[.agg (dirC k none 0 0 none 0 0).toArray, .int .i64 0]) ∧ Below w.heap.size w w') := by
  have h := dnew_any k w
  unfold NewPost Go.Dr.newD at h
  rw [if_pos hk] at h
  exact h
theorem new_no {k : Int} (hk : keyOk k = false) (w : World) : Calls Tryz.prog 15 #[.int .i64 k] w (fun e w' => e = .returned (.tuple #[.agg zdV.toArray, .int .i64 50]) ∧ Below w.heap.size w w') := by
  have h := dnew_any k w
  unfold NewPost Go.Dr.newD at h
  rw [if_neg (by rw [hk]; simp)] at h
  exact h

set_option maxRecDepth 100000 in
set_option maxHeartbeats 20000000 in
theorem sane35_any (w : World) (HT : Tabs w) : Calls Tryz.prog 9 #[] w (RetBo true w) := by
  have HT' := Lib.hid HT
  clear HT
  obtain ⟨pq, hpq⟩ : ∃ pq, Hid (pubB 4 5 = pq) := ⟨_, rfl⟩
  have hpb : Hid (I64 pq) := by have := pubB_bd 4 5; rw [hpq.out] at this; exact ⟨by omega, by omega⟩
  obtain ⟨r, hDx⟩ := Go.Dr.dex_there (b := 4) base_ok
  rw [hpq.out] at hDx
  have hDx' := Lib.hid hDx
  clear hDx
  obtain ⟨X, hX⟩ : ∃ X, X = RetBo true w := ⟨_, rfl⟩
  have hfin : Hid (∀ W, Below w.heap.size w W → X (.returned (.bool true)) W) := fun W hb => by rw [hX]; exact ⟨rfl, hb⟩
  rw [← hX]
  clear hX
  have hpub : Hid (∀ W, Calls Tryz.prog 39 #[.int .i64 5] W (fun e w' => e = .returned (.tuple #[.int .i64 pq, .int .i64 0]) ∧ Below W.heap.size W w')) := fun W => by
    have h := Public_any 5 W
    rw [publicK_t Go.Dr.key5, hpq.out] at h
    exact h
  clear hpq
  go_enter Tryz.func9, Tryz.ntmps9
  go_wp2_with fail
  refine (new_at Go.Dr.key5 _).mono ?_
  rintro e w1 ⟨rfl, hbw0⟩
  have hbw := Lib.hid hbw0
  clear hbw0
  obtain ⟨v1, hP⟩ : ∃ V, Hid (PutR 34 (w1.alloc (.cells (dirC 0 none 0 0 none 0 0 : List Value).toArray 34)) V w1.heap.size 34 (dirC 5 none 0 0 none 0 0)) := put_row (Blk.new w1 34 (dirC 0 none 0 0 none 0 0)) rfl (sizeDr) (dr_one _ _ _ _ _ _ _)
  have hst := below_grown ((Below.refl _ w1).alloc (Nat.le_refl _) _) hP.out.grown (by simp) (Nat.le_refl _)
  replace hbw := Lib.hid (hbw.out.trans (hst.mono hbw.out.size))
  clear hst
  have hB1 := Lib.hid hP.out.blk
  go_wp2_with (first
    | (refine wpList_store_mid (by rfl) 34 (.tmp 1) (.tmp 21) (by rfl) w1.heap.size 0 (dirC 5 none 0 0 none 0 0).toArray (by rfl) (by rfl) hP.out.there hP.out.info (by simpa using hP.out.one) ?_
       generalize hWq : World.setCells _ _ _ _ = Wa
       obtain rfl : v1 = Wa := by rw [← hWq]; exact hP.out.eq
       clear hWq))
  clear hP
  refine (hpub.out _).mono ?_
  rintro e w2 ⟨rfl, hst⟩
  replace hB1 := Lib.hid (hB1.out.below hst hB1.out.lt)
  replace hbw := Lib.hid (hbw.out.trans (hst.mono hbw.out.size))
  clear hst hpub
  obtain ⟨v2, hP⟩ : ∃ V, Hid (PutR 36 (w2.alloc (.cells (zG : List Value).toArray 36)) V w2.heap.size 36 (gC exL)) := put_row (Blk.new w2 36 (zG)) rfl (sizeG) (gC_one _)
  have hst := below_grown ((Below.refl _ w2).alloc (Nat.le_refl _) _) hP.out.grown (by simp) (Nat.le_refl _)
  replace hB1 := Lib.hid (hB1.out.below hst hB1.out.lt)
  replace hbw := Lib.hid (hbw.out.trans (hst.mono hbw.out.size))
  clear hst
  have hB5 := Lib.hid hP.out.blk
  have b0 := hB1.out.at_ (i := 0) (x := .int .i64 5) rfl
  have b1 := hB1.out.at_ (i := 1) (x := .slice none 0 0) rfl
  have b2 := hB1.out.at_ (i := 2) (x := .slice none 0 0) rfl
  have l0 := hB5.out.at_ (i := 0) (x := .int .i64 3) rfl
  have l1 := hB5.out.at_ (i := 1) (x := .int .i64 4) rfl
  have l2 := hB5.out.at_ (i := 2) (x := .int .i64 16) rfl
  have l3 := hB5.out.at_ (i := 3) (x := .int .i64 1) rfl
  have l4 := hB5.out.at_ (i := 4) (x := .bool false) rfl
  go_wp2_with (first
    | (refine wpList_store_mid (by rfl) 36 (.tmp 5) (.tmp 27) (by rfl) w2.heap.size 0 (gC exL).toArray (by rfl) (by rfl) hP.out.there hP.out.info (by simpa using hP.out.one) ?_
       generalize hWq : World.setCells _ _ _ _ = Wa
       obtain rfl : v2 = Wa := by rw [← hWq]; exact hP.out.eq
       clear hWq))
  clear hP b0 b1 b2 l0 l1 l2 l3 l4
  refine (set_at hDx'.out.set okL_ex (HT'.out.below hbw.out) (dm_new 5 ⟨by decide, by decide⟩ _)).mono ?_
  rintro e w3 ⟨la, lc, ra, rc, rfl, hD0, hst⟩
  replace hB1 := Lib.hid (hB1.out.below hst hB1.out.lt)
  replace hB5 := Lib.hid (hB5.out.below hst hB5.out.lt)
  replace hbw := Lib.hid (hbw.out.trans (hst.mono hbw.out.size))
  have hD : Hid (DM (fun _ => True) w3 ⟨5, [exL], [r]⟩ la 1 lc ra 1 rc) := hD0.imp fun _ _ _ => trivial
  clear hst hD0
  obtain ⟨v3, hP⟩ : ∃ V, Hid (PutR 34 (w3.alloc (.cells (dirC 0 none 0 0 none 0 0 : List Value).toArray 34)) V w3.heap.size 34 (dirC 5 la 1 lc ra 1 rc)) := put_row (Blk.new w3 34 (dirC 0 none 0 0 none 0 0)) rfl (sizeDr) (dr_one _ _ _ _ _ _ _)
  have hst := below_grown ((Below.refl _ w3).alloc (Nat.le_refl _) _) hP.out.grown (by simp) (Nat.le_refl _)
  replace hB1 := Lib.hid (hB1.out.below hst hB1.out.lt)
  replace hB5 := Lib.hid (hB5.out.below hst hB5.out.lt)
  replace hD := Lib.hid (hD.out.below hst)
  replace hbw := Lib.hid (hbw.out.trans (hst.mono hbw.out.size))
  clear hst
  have hB6 := Lib.hid hP.out.blk
  have y0 := hB6.out.at_ (i := 0) (x := .int .i64 5) rfl
  have y1 := hB6.out.at_ (i := 1) (x := .slice la 1 lc) rfl
  have y2 := hB6.out.at_ (i := 2) (x := .slice ra 1 rc) rfl
  obtain ⟨rb, ro, era, _, _, hrk, hrr0⟩ := hD.out.qs.cells (k := 0) (x := r) rfl
  rw [Nat.zero_mul, Nat.add_zero] at hrr0
  have hrk' := Lib.hid hrk
  have hrr := Lib.hid hrr0
  subst era
  clear hrk hrr0
  have hri : Hid ((Tryz.prog.info? 27).map (·.size) = some (rC r).length) := by show _ = _; rw [rC_length hrk'.out]; exact sizeR
  obtain ⟨v4, hP8⟩ : ∃ V, Hid (PutR 27 (v3.alloc (.cells (rC Go.Dr.zeroR).toArray 27)) V v3.heap.size 27 (rC r)) := put_row (Blk.new v3 27 (rC Go.Dr.zeroR)) (by rw [rC_length hrk'.out, rC_length okZ]) (hri.out) (rC_one r)
  have hrx : Hid (rC r = rC r) := rfl
  obtain ⟨rr, hre⟩ : ∃ rr, Hid (rC r = rr) := ⟨_, rfl⟩
  rw [hre.out] at hP8 hrr hri
  go_wp2_with (first
    | (refine wpList_store_mid (by rfl) 34 (.tmp 6) (.tmp 32) (by rfl) w3.heap.size 0 (dirC 5 la 1 lc (some ⟨rb, ro, none⟩) 1 rc).toArray (by rfl) (by rfl) hP.out.there hP.out.info (by simpa using hP.out.one) ?_
       generalize hWq : World.setCells _ _ _ _ = Wa
       obtain rfl : v3 = Wa := by rw [← hWq]; exact hP.out.eq
       clear hWq)
    | (refine wpList_load_mid (by rfl) 27 (.tmp 58) (by rfl) rb ro (by rfl) rr _ hrr.out Tryz.underlying27 (by rfl) hri.out ?_)
    | (refine wpList_store_mid (by rfl) 27 (.tmp 8) (.tmp 59) (by rfl) v3.heap.size 0 rr.toArray (by rfl) (by rfl) hP8.out.there hP8.out.info (by simpa using hP8.out.one) ?_
       generalize hWq : World.setCells _ _ _ _ = Wa
       obtain rfl : v4 = Wa := by rw [← hWq]; exact hP8.out.eq
       have hst := below_grown ((Below.refl _ v3).alloc (Nat.le_refl _) _) hP8.out.grown (by simp) (Nat.le_refl _)
       have y0 := (hB6.out.below hst hB6.out.lt).at_ (i := 0) (x := .int .i64 5) rfl
       have y1 := (hB6.out.below hst hB6.out.lt).at_ (i := 1) (x := .slice la 1 lc) rfl
       have y2 := (hB6.out.below hst hB6.out.lt).at_ (i := 2) (x := .slice (some ⟨rb, ro, none⟩) 1 rc) rfl
       clear hWq))
  replace hB1 := Lib.hid (hB1.out.below hst hB1.out.lt)
  replace hB5 := Lib.hid (hB5.out.below hst hB5.out.lt)
  replace hD := Lib.hid (hD.out.below hst)
  replace hB6 := Lib.hid (hB6.out.below hst hB6.out.lt)
  replace hbw := Lib.hid (hbw.out.trans (hst.mono hbw.out.size))
  have hB8 := Lib.hid hP8.out.blk
  clear hP hP8 hst hrr hrx
  refine (prove_at (dev := 3) (by decide) (HT'.out.below hbw.out) hD.out.gs).mono ?_
  rintro e w4 ⟨pa, pc, rfl, hS30, hst⟩
  replace hB1 := Lib.hid (hB1.out.below hst hB1.out.lt)
  replace hB5 := Lib.hid (hB5.out.below hst hB5.out.lt)
  replace hD := Lib.hid (hD.out.below hst)
  replace hB6 := Lib.hid (hB6.out.below hst hB6.out.lt)
  replace hB8 := Lib.hid (hB8.out.below hst hB8.out.lt)
  replace hbw := Lib.hid (hbw.out.trans (hst.mono hbw.out.size))
  have hS3 := Lib.hid hS30
  clear hst hS30 y0 y1 y2
  have y0 := hB6.out.at_ (i := 0) (x := .int .i64 5) rfl
  have y1 := hB6.out.at_ (i := 1) (x := .slice la 1 lc) rfl
  have y2 := hB6.out.at_ (i := 2) (x := .slice (some ⟨rb, ro, none⟩) 1 rc) rfl
  go_wp2_with fail
  refine (prove_at (dev := 4) (by decide) (HT'.out.below hbw.out) hD.out.gs).mono ?_
  rintro e w5 ⟨qa, qc, rfl, hS40, hst⟩
  replace hB1 := Lib.hid (hB1.out.below hst hB1.out.lt)
  replace hB5 := Lib.hid (hB5.out.below hst hB5.out.lt)
  replace hD := Lib.hid (hD.out.below hst)
  replace hB6 := Lib.hid (hB6.out.below hst hB6.out.lt)
  replace hB8 := Lib.hid (hB8.out.below hst hB8.out.lt)
  replace hS3 := Lib.hid (hS3.out.below hst)
  replace hbw := Lib.hid (hbw.out.trans (hst.mono hbw.out.size))
  have hS4 := Lib.hid hS40
  clear hst hS40 y0 y1 y2
  have y0 := hB6.out.at_ (i := 0) (x := .int .i64 5) rfl
  have y1 := hB6.out.at_ (i := 1) (x := .slice la 1 lc) rfl
  have y2 := hB6.out.at_ (i := 2) (x := .slice (some ⟨rb, ro, none⟩) 1 rc) rfl
  go_wp2_with fail
  refine (new_no (k := 0) (by decide) _).mono ?_
  rintro e w6 ⟨rfl, hst⟩
  replace hB1 := Lib.hid (hB1.out.below hst hB1.out.lt)
  replace hB5 := Lib.hid (hB5.out.below hst hB5.out.lt)
  replace hD := Lib.hid (hD.out.below hst)
  replace hB6 := Lib.hid (hB6.out.below hst hB6.out.lt)
  replace hB8 := Lib.hid (hB8.out.below hst hB8.out.lt)
  replace hS3 := Lib.hid (hS3.out.below hst)
  replace hS4 := Lib.hid (hS4.out.below hst)
  replace hbw := Lib.hid (hbw.out.trans (hst.mono hbw.out.size))
  clear hst y0 y1 y2
  obtain ⟨v6, hP⟩ : ∃ V, Hid (PutR 34 (w6.alloc (.cells (dirC 0 none 0 0 none 0 0 : List Value).toArray 34)) V w6.heap.size 34 (zdV)) := put_row (Blk.new w6 34 (dirC 0 none 0 0 none 0 0)) rfl (sizeDr) (dr_one _ _ _ _ _ _ _)
  have hst := below_grown ((Below.refl _ w6).alloc (Nat.le_refl _) _) hP.out.grown (by simp) (Nat.le_refl _)
  replace hB1 := Lib.hid (hB1.out.below hst hB1.out.lt)
  replace hB5 := Lib.hid (hB5.out.below hst hB5.out.lt)
  replace hD := Lib.hid (hD.out.below hst)
  replace hB6 := Lib.hid (hB6.out.below hst hB6.out.lt)
  replace hB8 := Lib.hid (hB8.out.below hst hB8.out.lt)
  replace hS3 := Lib.hid (hS3.out.below hst)
  replace hS4 := Lib.hid (hS4.out.below hst)
  replace hbw := Lib.hid (hbw.out.trans (hst.mono hbw.out.size))
  clear hst
  have hB13 := Lib.hid hP.out.blk
  go_wp2_with (first
    | (refine wpList_store_mid (by rfl) 34 (.tmp 13) (.tmp 74) (by rfl) w6.heap.size 0 (zdV).toArray (by rfl) (by rfl) hP.out.there hP.out.info (by simpa using hP.out.one) ?_
       generalize hWq : World.setCells _ _ _ _ = Wa
       obtain rfl : v6 = Wa := by rw [← hWq]; exact hP.out.eq
       clear hWq))
  clear hP
  refine (prove_no (l := []) (dev := 512) ⟨by decide, by decide⟩ (by decide) (HT'.out.below hbw.out) (RS.nil0 _ _ _)).mono ?_
  rintro e w7 ⟨rfl, hst⟩
  replace hB1 := Lib.hid (hB1.out.below hst hB1.out.lt)
  replace hB5 := Lib.hid (hB5.out.below hst hB5.out.lt)
  replace hD := Lib.hid (hD.out.below hst)
  replace hB6 := Lib.hid (hB6.out.below hst hB6.out.lt)
  replace hB8 := Lib.hid (hB8.out.below hst hB8.out.lt)
  replace hS3 := Lib.hid (hS3.out.below hst)
  replace hS4 := Lib.hid (hS4.out.below hst)
  replace hB13 := Lib.hid (hB13.out.below hst hB13.out.lt)
  replace hbw := Lib.hid (hbw.out.trans (hst.mono hbw.out.size))
  clear hst
  have b0 := hB1.out.at_ (i := 0) (x := .int .i64 5) rfl
  have b1 := hB1.out.at_ (i := 1) (x := .slice none 0 0) rfl
  have b2 := hB1.out.at_ (i := 2) (x := .slice none 0 0) rfl
  go_wp2_with fail
  clear b0 b1 b2
  refine (set_no hDx'.out.set0 (by decide) okL_zero (HT'.out.below hbw.out) (dm_new 5 ⟨by decide, by decide⟩ _)).mono ?_
  rintro e w8 ⟨rfl, hst⟩
  replace hB1 := Lib.hid (hB1.out.below hst hB1.out.lt)
  replace hB5 := Lib.hid (hB5.out.below hst hB5.out.lt)
  replace hD := Lib.hid (hD.out.below hst)
  replace hB6 := Lib.hid (hB6.out.below hst hB6.out.lt)
  replace hB8 := Lib.hid (hB8.out.below hst hB8.out.lt)
  replace hS3 := Lib.hid (hS3.out.below hst)
  replace hS4 := Lib.hid (hS4.out.below hst)
  replace hB13 := Lib.hid (hB13.out.below hst hB13.out.lt)
  replace hbw := Lib.hid (hbw.out.trans (hst.mono hbw.out.size))
  clear hst
  obtain ⟨v8, hP⟩ : ∃ V, Hid (PutR 34 (w8.alloc (.cells (dirC 0 none 0 0 none 0 0 : List Value).toArray 34)) V w8.heap.size 34 (zdV)) := put_row (Blk.new w8 34 (dirC 0 none 0 0 none 0 0)) rfl (sizeDr) (dr_one _ _ _ _ _ _ _)
  have hst := below_grown ((Below.refl _ w8).alloc (Nat.le_refl _) _) hP.out.grown (by simp) (Nat.le_refl _)
  replace hB1 := Lib.hid (hB1.out.below hst hB1.out.lt)
  replace hB5 := Lib.hid (hB5.out.below hst hB5.out.lt)
  replace hD := Lib.hid (hD.out.below hst)
  replace hB6 := Lib.hid (hB6.out.below hst hB6.out.lt)
  replace hB8 := Lib.hid (hB8.out.below hst hB8.out.lt)
  replace hS3 := Lib.hid (hS3.out.below hst)
  replace hS4 := Lib.hid (hS4.out.below hst)
  replace hB13 := Lib.hid (hB13.out.below hst hB13.out.lt)
  replace hbw := Lib.hid (hbw.out.trans (hst.mono hbw.out.size))
  clear hst
  have hB17 := Lib.hid hP.out.blk
  have y0 := hB6.out.at_ (i := 0) (x := .int .i64 5) rfl
  have y1 := hB6.out.at_ (i := 1) (x := .slice la 1 lc) rfl
  have y2 := hB6.out.at_ (i := 2) (x := .slice (some ⟨rb, ro, none⟩) 1 rc) rfl
  have hsz := Lib.hid (fun W hT => signed_any pq hpb.out Go.Dr.zeroR okZ W hT)
  rw [hDx'.out.sg0] at hsz
  have hsr := Lib.hid (fun W hT => signed_any pq hpb.out r hrk'.out W hT)
  rw [hDx'.out.sg, hre.out] at hsr
  have hr8 := Lib.hid hB8.out.range
  have hck := Lib.hid (fun W hG => dcheck_any (fun _ => True) la 1 lc [exL] W hG)
  rw [if_pos Go.Dr.ex_chk] at hck
  have hz55 : (rC Go.Dr.zeroR).toArray = Tryz.zeroCells27 := rfl
  rw [hz55] at hsz
  clear hz55
  go_wp2_with (first
    | (refine wpList_store_mid (by rfl) 34 (.tmp 17) (.tmp 84) (by rfl) w8.heap.size 0 (zdV).toArray (by rfl) (by rfl) hP.out.there hP.out.info (by simpa using hP.out.one) ?_
       generalize hWq : World.setCells _ _ _ _ = Wa
       obtain rfl : v8 = Wa := by rw [← hWq]; exact hP.out.eq
       clear hWq))
  clear hP y0 y1 y2
  refine (hsz.out _ (HT'.out.below hbw.out)).mono ?_
  rintro e w9 ⟨rfl, hst⟩
  replace hB1 := Lib.hid (hB1.out.below hst hB1.out.lt)
  replace hB5 := Lib.hid (hB5.out.below hst hB5.out.lt)
  replace hD := Lib.hid (hD.out.below hst)
  replace hB6 := Lib.hid (hB6.out.below hst hB6.out.lt)
  replace hB8 := Lib.hid (hB8.out.below hst hB8.out.lt)
  replace hS3 := Lib.hid (hS3.out.below hst)
  replace hS4 := Lib.hid (hS4.out.below hst)
  replace hB13 := Lib.hid (hB13.out.below hst hB13.out.lt)
  replace hB17 := Lib.hid (hB17.out.below hst hB17.out.lt)
  replace hbw := Lib.hid (hbw.out.trans (hst.mono hbw.out.size))
  clear hst
  have hr9 := Lib.hid hB8.out.range
  go_wp2_with (first
    | (refine wpList_load_gd (by rfl) 27 (.tmp 8) (by rfl) v3.heap.size 0 (by rfl) rr _ hr9.out Tryz.underlying27 (by rfl) hri.out ?_))
  refine (hsr.out _ (HT'.out.below hbw.out)).mono ?_
  rintro e w10 ⟨rfl, hst⟩
  replace hB1 := Lib.hid (hB1.out.below hst hB1.out.lt)
  replace hB5 := Lib.hid (hB5.out.below hst hB5.out.lt)
  replace hD := Lib.hid (hD.out.below hst)
  replace hB6 := Lib.hid (hB6.out.below hst hB6.out.lt)
  replace hB8 := Lib.hid (hB8.out.below hst hB8.out.lt)
  replace hS3 := Lib.hid (hS3.out.below hst)
  replace hS4 := Lib.hid (hS4.out.below hst)
  replace hB13 := Lib.hid (hB13.out.below hst hB13.out.lt)
  replace hB17 := Lib.hid (hB17.out.below hst hB17.out.lt)
  replace hbw := Lib.hid (hbw.out.trans (hst.mono hbw.out.size))
  clear hst
  have y0 := hB6.out.at_ (i := 0) (x := .int .i64 5) rfl
  have y1 := hB6.out.at_ (i := 1) (x := .slice la 1 lc) rfl
  have y2 := hB6.out.at_ (i := 2) (x := .slice (some ⟨rb, ro, none⟩) 1 rc) rfl
  go_wp2_with fail
  clear y0 y1 y2
  refine (hck.out _ hD.out.gs).mono ?_
  rintro e w11 ⟨rfl, hst⟩
  replace hB1 := Lib.hid (hB1.out.below hst hB1.out.lt)
  replace hB5 := Lib.hid (hB5.out.below hst hB5.out.lt)
  replace hD := Lib.hid (hD.out.below hst)
  replace hB6 := Lib.hid (hB6.out.below hst hB6.out.lt)
  replace hB8 := Lib.hid (hB8.out.below hst hB8.out.lt)
  replace hS3 := Lib.hid (hS3.out.below hst)
  replace hS4 := Lib.hid (hS4.out.below hst)
  replace hB13 := Lib.hid (hB13.out.below hst hB13.out.lt)
  replace hB17 := Lib.hid (hB17.out.below hst hB17.out.lt)
  replace hbw := Lib.hid (hbw.out.trans (hst.mono hbw.out.size))
  clear hst
  obtain ⟨D0, hD0⟩ : ∃ D, Hid (Go.Dr.rootD [exL] = D) := ⟨_, rfl⟩
  have hDd : Hid (Dig D0) := by rw [← hD0.out]; exact ⟨Go.Dr.nodeD_length [exL] 9 1, Go.Dr.nodeD_lt [exL] 9 1⟩
  have hp3 : Hid (Go.Dr.verP D0 exL false (Go.Dr.pathD [exL] 3) = true) := by rw [← hD0.out]; exact Go.Dr.ex_path
  have hp4 : Hid (Go.Dr.verP D0 ⟨4, 0, 0, 0, false⟩ true (Go.Dr.pathD [exL] 4) = true) := by rw [← hD0.out]; exact Go.Dr.ex_other
  have hk8 : Hid (rr[0]? = some (.int .i64 1)) := by show _ = _; rw [← hre.out, ← hDx'.out.no]; rfl
  have hd8 : Hid (∀ (j : Nat) (u : Value), (bv D0)[j]? = some u → rr[1 + j]? = some u) := fun j u h => by rw [← hre.out]; exact rC_dig (by rw [hDx'.out.dig, hD0.out]; exact h)
  have hv8 : Hid (∀ (j : Nat) (u : Value), (bv Go.Dr.zd)[j]? = some u → rr[33 + j]? = some u) := fun j u h => by rw [← hre.out]; exact rC_prev hrk'.out.dig (by rw [hDx'.out.prev]; exact h)
  have hdg := Lib.hid (fun W hT hG => digestL_any (fun _ => True) la 1 lc [exL] W hT hG)
  rw [hD0.out] at hdg
  have hzd : Dig Go.Dr.zd := ⟨by simp [Go.Dr.zd], by simp [Go.Dr.zd]⟩
  have heq1 : ∀ W, (Op.equalIn 10000 23 (.agg (bv Go.Dr.zd).toArray) (.agg #[.int .u8 0, .int .u8 0, .int .u8 0, .int .u8 0, .int .u8 0, .int .u8 0, .int .u8 0, .int .u8 0, .int .u8 0, .int .u8 0, .int .u8 0, .int .u8 0, .int .u8 0, .int .u8 0, .int .u8 0, .int .u8 0, .int .u8 0, .int .u8 0, .int .u8 0, .int .u8 0, .int .u8 0, .int .u8 0, .int .u8 0, .int .u8 0, .int .u8 0, .int .u8 0, .int .u8 0, .int .u8 0, .int .u8 0, .int .u8 0, .int .u8 0, .int .u8 0])).run Tryz.prog W = .ok true W := fun W => by
    have h := eq_dig hzd hzd W
    rw [decide_eq_true rfl] at h
    exact h
  have heq2 : ∀ W, (Op.equalIn 10000 23 (.agg (bv D0).toArray) (.agg (bv D0).toArray)).run Tryz.prog W = .ok true W := fun W => by rw [eq_dig hDd.out hDd.out W, decide_eq_true rfl]
  have zi0 : Hid ((Tryz.prog.info? 23).map (·.size) = some (bv Go.Dr.zd).length) := by show _ = _; rw [bv_length, hzd.1]; exact size35
  have zi1 : Hid ((Tryz.prog.info? 23).map (·.size) = some (bv D0).length) := by show _ = _; rw [bv_length, hDd.out.1]; exact size35
  have hv1 := Lib.hid (fun W hT hS => verify_any D0 hDd.out exL okL_ex false (Go.Dr.pathD [exL] 3) pa 9 pc W hT hS)
  have hv2 := Lib.hid (fun W hT hS => verify_any D0 hDd.out ⟨4, 0, 0, 0, false⟩ ⟨⟨by decide, by decide⟩, i64_0, i64_0, i64_0⟩ true (Go.Dr.pathD [exL] 4) qa 9 qc W hT hS)
  rw [hp3.out] at hv1
  rw [hp4.out] at hv2
  clear hp3 hp4 hD0 hzd hsz hsr hck hr9 hri hre hDx' hpb
  go_upto_region 15 with fail
  refine wp_region_held_drew (S := fun wz => Below w11.heap.size w11 wz) (by kernel_rfl) ((Below.refl _ w11).drew) (fun hHeld => ?_)
  have hB8' : Blk w11 v3.heap.size 27 rr := hB8.out
  have hB5' : Blk w11 w2.heap.size 36 (gC exL) := hB5.out
  have hB6' : Blk w11 w3.heap.size 34 (dirC 5 la 1 lc (some ⟨rb, ro, none⟩) 1 rc) := hB6.out
  have n5 := hB5'.lt
  have n6 := hB6'.lt
  have n8 := hB8'.lt
  generalize hW0 : w11.drew = W0 at *
  clear hW0
  refine wpAnyH_take (i := 0) (oi := { dst := some 121, op := Op.fieldAddr 27 (Operand.tmp 8) 0, type := 0, pos := "law.go:32", after := #[], guard := none }) (v := ?_) rfl (by kernel_rfl) (by kernel_rfl) (by kernel_rfl) (fun _ _ _ h => h) (Or.inl ⟨by rfl, ?_⟩) hHeld ?_
  rotate_left
  · intro wz hSw
    go_simp
    all_goals (with_reducible rfl)
  try simp only [Act.put, List.setIfInBounds_toArray, List.set_cons_zero, List.set_cons_succ]
  refine wpAnyH_take (i := 1) (oi := { dst := some 122, op := Op.load 3 (Operand.tmp 121), type := 3, pos := "law.go:32", after := #[{ on := 0, ground := Ground.data }], guard := none }) (v := ?_) rfl (by kernel_rfl) (by kernel_rfl) (by kernel_rfl) (fun _ _ _ h => h) (Or.inl ⟨by rfl, ?_⟩) hHeld ?_
  rotate_left
  · intro wz hSw
    have q0 := (hB8'.below hSw n8).at_ hk8.out
    go_simp
    all_goals (with_reducible rfl)
  try simp only [Act.put, List.setIfInBounds_toArray, List.set_cons_zero, List.set_cons_succ]
  refine wpAnyH_take (i := 2) (oi := { dst := some 123, op := Op.binOp BinOp.eql 3 (Operand.tmp 122) (Operand.const (Value.int IntKind.i64 1)) 3, type := 4, pos := "law.go:32", after := #[{ on := 1, ground := Ground.data }], guard := none }) (v := ?_) rfl (by kernel_rfl) (by kernel_rfl) (by kernel_rfl) (fun _ _ _ h => h) (Or.inl ⟨by rfl, ?_⟩) hHeld ?_
  rotate_left
  · intro wz hSw
    go_simp
    all_goals (with_reducible rfl)
  try simp only [Act.put, List.setIfInBounds_toArray, List.set_cons_zero, List.set_cons_succ]
  refine wpAnyH_take (i := 3) (oi := { dst := some 124, op := Op.move (Operand.tmp 123), type := 4, pos := "law.go:32", after := #[{ on := 2, ground := Ground.data }], guard := none }) (v := ?_) rfl (by kernel_rfl) (by kernel_rfl) (by kernel_rfl) (fun _ _ _ h => h) (Or.inl ⟨by rfl, ?_⟩) hHeld ?_
  rotate_left
  · intro wz hSw
    go_simp
    all_goals (with_reducible rfl)
  try simp only [Act.put, List.setIfInBounds_toArray, List.set_cons_zero, List.set_cons_succ]
  refine wpAnyH_take (i := 4) (oi := { dst := some 125, op := Op.fieldAddr 27 (Operand.tmp 8) 2, type := 0, pos := "law.go:32", after := #[{ on := 3, ground := Ground.guard }], guard := some (3, true) }) (v := ?_) rfl (by kernel_rfl) (by kernel_rfl) (by kernel_rfl) (fun _ _ _ h => h) (Or.inl ⟨by rfl, ?_⟩) hHeld ?_
  rotate_left
  · intro wz hSw
    go_simp
    all_goals (with_reducible rfl)
  try simp only [Act.put, List.setIfInBounds_toArray, List.set_cons_zero, List.set_cons_succ]
  refine wpAnyH_take (i := 5) (oi := { dst := some 126, op := Op.load 23 (Operand.tmp 125), type := 23, pos := "law.go:32", after := #[{ on := 4, ground := Ground.data }, { on := 3, ground := Ground.guard }], guard := some (3, true) }) rfl (by kernel_rfl) (by kernel_rfl) (by kernel_rfl) (fun _ _ _ h => h) (yieldsIf_load_mid (by rfl) _ _ rfl v3.heap.size 33 rfl (bv Go.Dr.zd) _ (fun wz h => fun j u hj => (hB8'.below h n8).at_ (hv8.out j u hj)) Tryz.underlying23 rfl (zi0.out)) hHeld ?_
  try simp only [Act.put, List.setIfInBounds_toArray, List.set_cons_zero, List.set_cons_succ]
  refine wpAnyH_take (i := 6) (oi := { dst := some 127, op := Op.build 23 #[], type := 23, pos := "law.go:32", after := #[{ on := 3, ground := Ground.guard }], guard := some (3, true) }) (v := ?_) rfl (by kernel_rfl) (by kernel_rfl) (by kernel_rfl) (fun _ _ _ h => h) (Or.inl ⟨by rfl, ?_⟩) hHeld ?_
  rotate_left
  · intro wz hSw
    go_simp
    all_goals (with_reducible rfl)
  try simp only [Act.put, List.setIfInBounds_toArray, List.set_cons_zero, List.set_cons_succ]
  refine wpAnyH_take (i := 7) (oi := { dst := some 128, op := Op.binOp BinOp.eql 23 (Operand.tmp 126) (Operand.tmp 127) 23, type := 4, pos := "law.go:32", after := #[{ on := 5, ground := Ground.data }, { on := 6, ground := Ground.data }, { on := 3, ground := Ground.guard }], guard := some (3, true) }) (v := ?_) rfl (by kernel_rfl) (by kernel_rfl) (by kernel_rfl) (fun _ _ _ h => h) (Or.inl ⟨by rfl, ?_⟩) hHeld ?_
  rotate_left
  · intro wz hSw
    go_simp
    all_goals (with_reducible rfl)
  try simp only [Act.put, List.setIfInBounds_toArray, List.set_cons_zero, List.set_cons_succ]
  refine wpAnyH_take (i := 8) (oi := { dst := some 129, op := Op.pick (Operand.tmp 124) (Operand.tmp 128) (Operand.const (Value.bool false)), type := 4, pos := "law.go:32", after := #[{ on := 3, ground := Ground.data }, { on := 7, ground := Ground.data }], guard := none }) (v := ?_) rfl (by kernel_rfl) (by kernel_rfl) (by kernel_rfl) (fun _ _ _ h => h) (Or.inl ⟨by rfl, ?_⟩) hHeld ?_
  rotate_left
  · intro wz hSw
    go_simp
    all_goals (with_reducible rfl)
  try simp only [Act.put, List.setIfInBounds_toArray, List.set_cons_zero, List.set_cons_succ]
  refine wpAnyH_take (i := 9) (oi := { dst := some 130, op := Op.move (Operand.tmp 129), type := 4, pos := "law.go:32", after := #[{ on := 8, ground := Ground.data }, { on := 3, ground := Ground.chain }], guard := none }) (v := ?_) rfl (by kernel_rfl) (by kernel_rfl) (by kernel_rfl) (fun _ _ _ h => h) (Or.inl ⟨by rfl, ?_⟩) hHeld ?_
  rotate_left
  · intro wz hSw
    go_simp
    all_goals (with_reducible rfl)
  try simp only [Act.put, List.setIfInBounds_toArray, List.set_cons_zero, List.set_cons_succ]
  refine wpAnyH_take (i := 10) (oi := { dst := some 131, op := Op.fieldAddr 27 (Operand.tmp 8) 1, type := 0, pos := "law.go:32", after := #[{ on := 9, ground := Ground.guard }], guard := some (9, true) }) (v := ?_) rfl (by kernel_rfl) (by kernel_rfl) (by kernel_rfl) (fun _ _ _ h => h) (Or.inl ⟨by rfl, ?_⟩) hHeld ?_
  rotate_left
  · intro wz hSw
    go_simp
    all_goals (with_reducible rfl)
  try simp only [Act.put, List.setIfInBounds_toArray, List.set_cons_zero, List.set_cons_succ]
  refine wpAnyH_take (i := 11) (oi := { dst := some 132, op := Op.load 23 (Operand.tmp 131), type := 23, pos := "law.go:32", after := #[{ on := 10, ground := Ground.data }, { on := 9, ground := Ground.guard }], guard := some (9, true) }) rfl (by kernel_rfl) (by kernel_rfl) (by kernel_rfl) (fun _ _ _ h => h) (yieldsIf_load_mid (by rfl) _ _ rfl v3.heap.size 1 rfl (bv D0) _ (fun wz h => fun j u hj => (hB8'.below h n8).at_ (hd8.out j u hj)) Tryz.underlying23 rfl (zi1.out)) hHeld ?_
  try simp only [Act.put, List.setIfInBounds_toArray, List.set_cons_zero, List.set_cons_succ]
  refine wpAnyH_take (i := 12) (oi := { dst := some 133, op := Op.fieldAddr 34 (Operand.tmp 6) 1, type := 0, pos := "law.go:32", after := #[{ on := 9, ground := Ground.guard }], guard := some (9, true) }) (v := ?_) rfl (by kernel_rfl) (by kernel_rfl) (by kernel_rfl) (fun _ _ _ h => h) (Or.inl ⟨by rfl, ?_⟩) hHeld ?_
  rotate_left
  · intro wz hSw
    go_simp
    all_goals (with_reducible rfl)
  try simp only [Act.put, List.setIfInBounds_toArray, List.set_cons_zero, List.set_cons_succ]
  refine wpAnyH_take (i := 13) (oi := { dst := some 134, op := Op.load 31 (Operand.tmp 133), type := 31, pos := "law.go:32", after := #[{ on := 12, ground := Ground.data }, { on := 9, ground := Ground.guard }], guard := some (9, true) }) (v := ?_) rfl (by kernel_rfl) (by kernel_rfl) (by kernel_rfl) (fun _ _ _ h => h) (Or.inl ⟨by rfl, ?_⟩) hHeld ?_
  rotate_left
  · intro wz hSw
    have q1 := (hB6'.below hSw n6).at_ (i := 1) (x := .slice la 1 lc) rfl
    go_simp
    all_goals (with_reducible rfl)
  try simp only [Act.put, List.setIfInBounds_toArray, List.set_cons_zero, List.set_cons_succ]
  refine wpAnyH_ready (rs := [14]) (by kernel_rfl) (by simp) ?_
  refine AllReadyH.cons (o := { dst := some 135, op := Op.call { callee := Callee.value (Operand.func 24), args := #[Operand.tmp 134], argTypes := #[31] }, type := 23, pos := "law.go:32", after := #[{ on := 13, ground := Ground.data }, { on := 9, ground := Ground.chain }, { on := 9, ground := Ground.guard }], guard := some (9, true) }) rfl (fun K hK => ?_) AllReadyH.nil
  rw [if_pos (by rfl)]
  show Oper.wp _ _ _ _ K _
  go_simp
  go_at_call 24
  refine (hdg.out _ (HT'.out.below (hbw.out.trans (hHeld.mono hbw.out.size))) (hD.out.gs.below hHeld)).mono ?_
  rintro e W1 ⟨rfl, hst⟩
  refine hK.out _ _ (hHeld.trans (hst.mono hHeld.size)) (fun hHeld2 => ?_)
  clear hHeld hst
  have hHeld := hHeld2
  clear hHeld2
  clear hK K
  try simp only [Act.put, List.setIfInBounds_toArray, List.set_cons_zero, List.set_cons_succ]
  refine wpAnyH_take (i := 15) (oi := { dst := some 136, op := Op.binOp BinOp.eql 23 (Operand.tmp 132) (Operand.tmp 135) 23, type := 4, pos := "law.go:32", after := #[{ on := 11, ground := Ground.data }, { on := 14, ground := Ground.data }, { on := 9, ground := Ground.guard }], guard := some (9, true) }) (v := ?_) rfl (by kernel_rfl) (by kernel_rfl) (by kernel_rfl) (fun _ _ _ h => h) (Or.inl ⟨by rfl, ?_⟩) hHeld ?_
  rotate_left
  · intro wz hSw
    go_simp
    all_goals (with_reducible rfl)
  try simp only [Act.put, List.setIfInBounds_toArray, List.set_cons_zero, List.set_cons_succ]
  refine wpAnyH_take (i := 16) (oi := { dst := some 137, op := Op.pick (Operand.tmp 130) (Operand.tmp 136) (Operand.const (Value.bool false)), type := 4, pos := "law.go:32", after := #[{ on := 9, ground := Ground.data }, { on := 15, ground := Ground.data }], guard := none }) (v := ?_) rfl (by kernel_rfl) (by kernel_rfl) (by kernel_rfl) (fun _ _ _ h => h) (Or.inl ⟨by rfl, ?_⟩) hHeld ?_
  rotate_left
  · intro wz hSw
    go_simp
    all_goals (with_reducible rfl)
  try simp only [Act.put, List.setIfInBounds_toArray, List.set_cons_zero, List.set_cons_succ]
  refine wpAnyH_take (i := 17) (oi := { dst := some 138, op := Op.move (Operand.tmp 137), type := 4, pos := "law.go:32", after := #[{ on := 16, ground := Ground.data }, { on := 14, ground := Ground.chain }], guard := none }) (v := ?_) rfl (by kernel_rfl) (by kernel_rfl) (by kernel_rfl) (fun _ _ _ h => h) (Or.inl ⟨by rfl, ?_⟩) hHeld ?_
  rotate_left
  · intro wz hSw
    go_simp
    all_goals (with_reducible rfl)
  try simp only [Act.put, List.setIfInBounds_toArray, List.set_cons_zero, List.set_cons_succ]
  refine wpAnyH_take (i := 18) (oi := { dst := some 139, op := Op.fieldAddr 27 (Operand.tmp 8) 1, type := 0, pos := "law.go:32", after := #[{ on := 17, ground := Ground.guard }], guard := some (17, true) }) (v := ?_) rfl (by kernel_rfl) (by kernel_rfl) (by kernel_rfl) (fun _ _ _ h => h) (Or.inl ⟨by rfl, ?_⟩) hHeld ?_
  rotate_left
  · intro wz hSw
    go_simp
    all_goals (with_reducible rfl)
  try simp only [Act.put, List.setIfInBounds_toArray, List.set_cons_zero, List.set_cons_succ]
  refine wpAnyH_take (i := 19) (oi := { dst := some 140, op := Op.load 23 (Operand.tmp 139), type := 23, pos := "law.go:32", after := #[{ on := 18, ground := Ground.data }, { on := 17, ground := Ground.guard }], guard := some (17, true) }) rfl (by kernel_rfl) (by kernel_rfl) (by kernel_rfl) (fun _ _ _ h => h) (yieldsIf_load_mid (by rfl) _ _ rfl v3.heap.size 1 rfl (bv D0) _ (fun wz h => fun j u hj => (hB8'.below h n8).at_ (hd8.out j u hj)) Tryz.underlying23 rfl (zi1.out)) hHeld ?_
  try simp only [Act.put, List.setIfInBounds_toArray, List.set_cons_zero, List.set_cons_succ]
  refine wpAnyH_take (i := 20) (oi := { dst := some 141, op := Op.load 36 (Operand.tmp 5), type := 36, pos := "law.go:32", after := #[{ on := 17, ground := Ground.guard }], guard := some (17, true) }) (v := ?_) rfl (by kernel_rfl) (by kernel_rfl) (by kernel_rfl) (fun _ _ _ h => h) (Or.inl ⟨by rfl, ?_⟩) hHeld ?_
  rotate_left
  · intro wz hSw
    have q0 := (hB5'.below hSw n5).at_ (i := 0) (x := .int .i64 3) rfl
    have q1 := (hB5'.below hSw n5).at_ (i := 1) (x := .int .i64 4) rfl
    have q2 := (hB5'.below hSw n5).at_ (i := 2) (x := .int .i64 16) rfl
    have q3 := (hB5'.below hSw n5).at_ (i := 3) (x := .int .i64 1) rfl
    have q4 := (hB5'.below hSw n5).at_ (i := 4) (x := .bool false) rfl
    go_simp
    all_goals (with_reducible rfl)
  try simp only [Act.put, List.setIfInBounds_toArray, List.set_cons_zero, List.set_cons_succ]
  refine wpAnyH_take (i := 21) (oi := { dst := some 142, op := Op.move (Operand.tmp 9), type := 66, pos := "law.go:32", after := #[{ on := 17, ground := Ground.guard }], guard := some (17, true) }) (v := ?_) rfl (by kernel_rfl) (by kernel_rfl) (by kernel_rfl) (fun _ _ _ h => h) (Or.inl ⟨by rfl, ?_⟩) hHeld ?_
  rotate_left
  · intro wz hSw
    go_simp
    all_goals (with_reducible rfl)
  try simp only [Act.put, List.setIfInBounds_toArray, List.set_cons_zero, List.set_cons_succ]
  refine wpAnyH_ready (rs := [22]) (by kernel_rfl) (by simp) ?_
  refine AllReadyH.cons (o := { dst := some 143, op := Op.call { callee := Callee.value (Operand.func 41), args := #[Operand.tmp 140, Operand.tmp 141, Operand.const (Value.bool false), Operand.tmp 142], argTypes := #[23, 36, 4, 66] }, type := 4, pos := "law.go:32", after := #[{ on := 19, ground := Ground.data }, { on := 20, ground := Ground.data }, { on := 21, ground := Ground.data }, { on := 17, ground := Ground.chain }, { on := 17, ground := Ground.guard }], guard := some (17, true) }) rfl (fun K hK => ?_) AllReadyH.nil
  rw [if_pos (by rfl)]
  show Oper.wp _ _ _ _ K _
  go_simp
  go_at_call 41
  refine (hv1.out _ (HT'.out.below (hbw.out.trans (hHeld.mono hbw.out.size))) (hS3.out.below hHeld)).mono ?_
  rintro e W2 ⟨rfl, hst⟩
  refine hK.out _ _ (hHeld.trans (hst.mono hHeld.size)) (fun hHeld2 => ?_)
  clear hHeld hst
  have hHeld := hHeld2
  clear hHeld2
  clear hK K
  try simp only [Act.put, List.setIfInBounds_toArray, List.set_cons_zero, List.set_cons_succ]
  refine wpAnyH_take (i := 23) (oi := { dst := some 144, op := Op.pick (Operand.tmp 138) (Operand.tmp 143) (Operand.const (Value.bool false)), type := 4, pos := "law.go:32", after := #[{ on := 17, ground := Ground.data }, { on := 22, ground := Ground.data }], guard := none }) (v := ?_) rfl (by kernel_rfl) (by kernel_rfl) (by kernel_rfl) (fun _ _ _ h => h) (Or.inl ⟨by rfl, ?_⟩) hHeld ?_
  rotate_left
  · intro wz hSw
    go_simp
    all_goals (with_reducible rfl)
  try simp only [Act.put, List.setIfInBounds_toArray, List.set_cons_zero, List.set_cons_succ]
  refine wpAnyH_take (i := 24) (oi := { dst := some 145, op := Op.move (Operand.tmp 144), type := 4, pos := "law.go:32", after := #[{ on := 23, ground := Ground.data }, { on := 22, ground := Ground.chain }], guard := none }) (v := ?_) rfl (by kernel_rfl) (by kernel_rfl) (by kernel_rfl) (fun _ _ _ h => h) (Or.inl ⟨by rfl, ?_⟩) hHeld ?_
  rotate_left
  · intro wz hSw
    go_simp
    all_goals (with_reducible rfl)
  try simp only [Act.put, List.setIfInBounds_toArray, List.set_cons_zero, List.set_cons_succ]
  refine wpAnyH_take (i := 25) (oi := { dst := some 146, op := Op.fieldAddr 27 (Operand.tmp 8) 1, type := 0, pos := "law.go:32", after := #[{ on := 24, ground := Ground.guard }], guard := some (24, true) }) (v := ?_) rfl (by kernel_rfl) (by kernel_rfl) (by kernel_rfl) (fun _ _ _ h => h) (Or.inl ⟨by rfl, ?_⟩) hHeld ?_
  rotate_left
  · intro wz hSw
    go_simp
    all_goals (with_reducible rfl)
  try simp only [Act.put, List.setIfInBounds_toArray, List.set_cons_zero, List.set_cons_succ]
  refine wpAnyH_take (i := 26) (oi := { dst := some 147, op := Op.load 23 (Operand.tmp 146), type := 23, pos := "law.go:32", after := #[{ on := 25, ground := Ground.data }, { on := 24, ground := Ground.guard }], guard := some (24, true) }) rfl (by kernel_rfl) (by kernel_rfl) (by kernel_rfl) (fun _ _ _ h => h) (yieldsIf_load_mid (by rfl) _ _ rfl v3.heap.size 1 rfl (bv D0) _ (fun wz h => fun j u hj => (hB8'.below h n8).at_ (hd8.out j u hj)) Tryz.underlying23 rfl (zi1.out)) hHeld ?_
  try simp only [Act.put, List.setIfInBounds_toArray, List.set_cons_zero, List.set_cons_succ]
  refine wpAnyH_take (i := 27) (oi := { dst := some 148, op := Op.build 36 #[(0, Operand.const (Value.int IntKind.i64 4))], type := 36, pos := "law.go:32", after := #[{ on := 24, ground := Ground.guard }], guard := some (24, true) }) (v := ?_) rfl (by kernel_rfl) (by kernel_rfl) (by kernel_rfl) (fun _ _ _ h => h) (Or.inl ⟨by rfl, ?_⟩) hHeld ?_
  rotate_left
  · intro wz hSw
    go_simp
    all_goals (with_reducible rfl)
  try simp only [Act.put, List.setIfInBounds_toArray, List.set_cons_zero, List.set_cons_succ]
  refine wpAnyH_take (i := 28) (oi := { dst := some 149, op := Op.move (Operand.tmp 11), type := 66, pos := "law.go:32", after := #[{ on := 24, ground := Ground.guard }], guard := some (24, true) }) (v := ?_) rfl (by kernel_rfl) (by kernel_rfl) (by kernel_rfl) (fun _ _ _ h => h) (Or.inl ⟨by rfl, ?_⟩) hHeld ?_
  rotate_left
  · intro wz hSw
    go_simp
    all_goals (with_reducible rfl)
  try simp only [Act.put, List.setIfInBounds_toArray, List.set_cons_zero, List.set_cons_succ]
  refine wpAnyH_ready (rs := [29]) (by kernel_rfl) (by simp) ?_
  refine AllReadyH.cons (o := { dst := some 150, op := Op.call { callee := Callee.value (Operand.func 41), args := #[Operand.tmp 147, Operand.tmp 148, Operand.const (Value.bool true), Operand.tmp 149], argTypes := #[23, 36, 4, 66] }, type := 4, pos := "law.go:32", after := #[{ on := 26, ground := Ground.data }, { on := 27, ground := Ground.data }, { on := 28, ground := Ground.data }, { on := 24, ground := Ground.chain }, { on := 24, ground := Ground.guard }], guard := some (24, true) }) rfl (fun K hK => ?_) AllReadyH.nil
  rw [if_pos (by rfl)]
  show Oper.wp _ _ _ _ K _
  go_simp
  go_at_call 41
  refine (hv2.out _ (HT'.out.below (hbw.out.trans (hHeld.mono hbw.out.size))) (hS4.out.below hHeld)).mono ?_
  rintro e W3 ⟨rfl, hst⟩
  refine hK.out _ _ (hHeld.trans (hst.mono hHeld.size)) (fun hHeld2 => ?_)
  clear hHeld hst
  have hHeld := hHeld2
  clear hHeld2
  clear hK K
  try simp only [Act.put, List.setIfInBounds_toArray, List.set_cons_zero, List.set_cons_succ]
  refine wpAnyH_take (i := 30) (oi := { dst := some 151, op := Op.pick (Operand.tmp 145) (Operand.tmp 150) (Operand.const (Value.bool false)), type := 4, pos := "law.go:32", after := #[{ on := 24, ground := Ground.data }, { on := 29, ground := Ground.data }], guard := none }) (v := ?_) rfl (by kernel_rfl) (by kernel_rfl) (by kernel_rfl) (fun _ _ _ h => h) (Or.inl ⟨by rfl, ?_⟩) hHeld ?_
  rotate_left
  · intro wz hSw
    go_simp
    all_goals (with_reducible rfl)
  try simp only [Act.put, List.setIfInBounds_toArray, List.set_cons_zero, List.set_cons_succ]
  refine wpAnyH_take (i := 31) (oi := { dst := some 0, op := Op.assign (Operand.tmp 151), type := 4, pos := "law.go:32", after := #[{ on := 30, ground := Ground.data }, { on := 29, ground := Ground.chain }, { on := 0, ground := Ground.phase }, { on := 1, ground := Ground.phase }, { on := 2, ground := Ground.phase }, { on := 3, ground := Ground.phase }, { on := 4, ground := Ground.phase }, { on := 5, ground := Ground.phase }, { on := 6, ground := Ground.phase }, { on := 7, ground := Ground.phase }, { on := 8, ground := Ground.phase }, { on := 9, ground := Ground.phase }, { on := 10, ground := Ground.phase }, { on := 11, ground := Ground.phase }, { on := 12, ground := Ground.phase }, { on := 13, ground := Ground.phase }, { on := 14, ground := Ground.phase }, { on := 15, ground := Ground.phase }, { on := 16, ground := Ground.phase }, { on := 17, ground := Ground.phase }, { on := 18, ground := Ground.phase }, { on := 19, ground := Ground.phase }, { on := 20, ground := Ground.phase }, { on := 21, ground := Ground.phase }, { on := 22, ground := Ground.phase }, { on := 23, ground := Ground.phase }, { on := 24, ground := Ground.phase }, { on := 25, ground := Ground.phase }, { on := 26, ground := Ground.phase }, { on := 27, ground := Ground.phase }, { on := 28, ground := Ground.phase }, { on := 29, ground := Ground.phase }, { on := 30, ground := Ground.phase }], guard := none }) (v := ?_) rfl (by kernel_rfl) (by kernel_rfl) (by kernel_rfl) (fun _ _ _ h => h) (Or.inl ⟨by rfl, ?_⟩) hHeld ?_
  rotate_left
  · intro wz hSw
    go_simp
    all_goals (with_reducible rfl)
  try simp only [Act.put, List.setIfInBounds_toArray, List.set_cons_zero]
  refine wpAnyH_done (by kernel_rfl) ?_ _
  have hend := hfin.out _ (hbw.out.trans (hHeld.mono hbw.out.size))
  go_wp2_with fail
  exact hend
end Go.Proofs.YthhblcbnnmoojaaGreatDoor
namespace Go.Proofs.YthhblcbnnmoojaaGreatDoor
open Go.ChangeShapes Go.WideShapes Go.ChangeAt Go.RowKit Go.Joins Go.Mem
open Go.Dr (Lst Rt Dir)

theorem cellsBo : Tryz.prog.cellsOf 4 = 1 := by kernel_rfl
theorem cellsLs : Tryz.prog.cellsOf 36 = 5 := by kernel_rfl
theorem own : ownKnob Tryz.prog.godebug = none := by kernel_rfl
theorem laidOut : laidOutB Tryz.prog = true := by kernel_rfl
theorem cellsU8 : Tryz.prog.cellsOf 5 = 1 := by kernel_rfl
theorem cellsU32 : Tryz.prog.cellsOf 154 = 1 := by kernel_rfl
theorem cellsInt : Tryz.prog.cellsOf 3 = 1 := by kernel_rfl
theorem cellsSig : Tryz.prog.cellsOf 25 = 2 := by kernel_rfl
theorem wf_i64 {n : Int} (h : (Lit.int .i64 n).wf = true) : I64 n := by
  have := bounds_i64 h
  unfold I64; omega

section
variable {H : Type} {enc : TypeId × Value → H} {W : World} {spare held : Bool}

theorem one_at {cs : List Value} {i : Nat} {v : Value} (h : (cs.drop (i * 1)).take 1 = [v]) : cs[i]? = some v := by
  rw [Nat.mul_one] at h
  have := congrArg (·[0]?) h
  simpa using this

theorem open_digest {fuel : Nat} {cs : List Value} {x : DataW H × List MemPlace} (h : DataW.trod enc Tryz.prog W 0 (fun _ => true) true fuel 23 cs = some x) :
    ∃ D : List Nat, cs = bv D ∧ D.length = 32 ∧ ∀ u ∈ D, u < 256 := by
  obtain ⟨xs, m, _, _, hl, hn, he⟩ := DataW.trod_array Tryz.underlying23 h
  rw [cells35] at hl
  rw [cellsU8] at he
  have each : ∀ i, i < 32 → ∃ y : Nat, cs[i]? = some (.int .u8 (y : Int)) ∧ y < 256 := by
    intro i hi
    have h1 := he i hi
    rw [List.getElem?_eq_getElem (by omega)] at h1
    obtain ⟨a, e0, _, w0⟩ := DataW.trod_int Tryz.underlying5 h1
    have hb : 0 ≤ a ∧ a < 256 := by
      have h2 : IntKind.u8.min ≤ a ∧ a ≤ IntKind.u8.max := by simpa [Lit.wf] using w0
      have e1 : IntKind.u8.min = 0 := rfl
      have e2 : IntKind.u8.max = 255 := rfl
      omega
    exact ⟨a.toNat, by rw [one_at e0, Int.toNat_of_nonneg hb.1], by omega⟩
  obtain ⟨f, hf⟩ := Deep.choose_lt each
  refine ⟨(List.range 32).map f, ?_, by simp, fun u hu => ?_⟩
  · apply List.ext_getElem?
    intro i
    by_cases hi : i < 32
    · rw [(hf i hi).1]
      simp [bv, hi]
    · rw [List.getElem?_eq_none (by omega), List.getElem?_eq_none (by simp [bv]; omega)]
  · obtain ⟨i, hi, rfl⟩ := List.mem_map.1 hu
    exact (hf i (List.mem_range.1 hi)).2

theorem open_int1 {fuel : Nat} {cs : List Value} {x : DataW H × List MemPlace} (h : DataW.trod enc Tryz.prog W 0 (fun _ => true) true fuel 3 cs = some x) : ∃ a : Int, cs = [.int .i64 a] ∧ I64 a := by
  obtain ⟨a, e, _, w⟩ := DataW.trod_int Tryz.underlying3 h
  exact ⟨a, e, wf_i64 w⟩

theorem len_two : ∀ {l : List Value}, l.length = 2 → ∃ u v, l = [u, v]
  | [u, v], _ => ⟨u, v, rfl⟩
theorem drop_parts (cs : List Value) (i k j : Nat) (hj : i + k = j) : cs.drop i = (cs.drop i).take k ++ cs.drop j := by
  rw [← hj, ← List.drop_drop, List.take_append_drop]

theorem trod_u32s {t : TypeId} {k fuel : Nat} {l : List Nat} {cs : List Value} {p : List MemPlace} (ht : Tryz.prog.underlying t = some (.array k 154)) (hk : l.length = k)
    (h : DataW.trod enc Tryz.prog W 0 (fun _ => spare) held fuel t cs = some (.agg (l.map fun (x : Nat) => .lit (.int .u32 (x : Int))), p)) : ∀ (i : Nat) x, l[i]? = some x → cs[i]? = some (.int .u32 ((x : Nat) : Int)) := by
  obtain ⟨xs, m, _, hx, hl, hn, he⟩ := DataW.trod_array ht h
  rw [cellsU32] at he
  intro i x hi
  have hik := (List.getElem?_eq_some_iff.1 hi).1
  have h1 := he i (by omega)
  rw [List.getElem?_eq_getElem (by omega)] at h1
  obtain ⟨a, e0, e1, _⟩ := DataW.trod_int Tryz.underlying154 h1
  rw [one_at e0]
  simp only [Prod.mk.injEq, DataW.agg.injEq] at hx
  have h2 := congrArg (·[i]?) hx.1
  simp only [List.getElem?_map, hi, Option.map_some] at h2
  rw [List.getElem?_eq_getElem (by omega)] at h2
  simp only [Option.map_some, Option.some.injEq] at h2
  rw [e1] at h2
  simp only [DataW.lit.injEq, Lit.int.injEq, true_and] at h2
  rw [h2]
end

theorem gStart : Tryz.prog.globalNamed "chartroom/digest.start" = some 1 := by kernel_rfl
theorem gNums : Tryz.prog.globalNamed "chartroom/digest.numbers" = some 2 := by kernel_rfl
theorem datStart {H : Type} : (Rows.laid_chartroom_digest_start : DataW H) = .agg ((stv Sha.start).map fun (x : Nat) => .lit (.int .u32 (x : Int))) := rfl
theorem datNums {H : Type} : (Rows.laid_chartroom_digest_numbers : DataW H) = .agg (Sha.K.map fun (x : Nat) => .lit (.int .u32 (x : Int))) := rfl
abbrev laid2 {H : Type} : List (String × DataW H) := [("chartroom/digest.start", Rows.laid_chartroom_digest_start), ("chartroom/digest.numbers", Rows.laid_chartroom_digest_numbers), ("bytes.ErrTooLarge", Rows.laid_bytes_ErrTooLarge)]

/-- The door's own heap meets the condition. -/
theorem door_met (os : Os) (args : Array Value) : laidMetH Tryz.prog laid2 ((World.doorLaid Tryz.prog 400 os).forCall (fun _ _ => 0) ⟨#[], args, []⟩).memory :=
  laidMetH_of_parts3 (fuel := 8) (laidMet_of_run' 8 (by kernel_rfl) (by kernel_rfl)) (by kernel_rfl) (by kernel_rfl)

theorem tabs_of_laid {W : World} (h : laidMetH Tryz.prog laid2 W) : Tabs W := by
  rw [MakeChecks.laidMetH_plain _ _ _ (by kernel_rfl)] at h
  obtain ⟨ps, ⟨g0, t0, cs0, f0, p0, q0, hg0, ht0, hv0, hd0, ⟨g1, t1, cs1, f1, p1, q1, hg1, ht1, hv1, hd1, _, _⟩, _⟩, _, _⟩ := h
  obtain rfl := Option.some.inj (gStart.symm.trans hg0)
  obtain rfl := Option.some.inj (gNums.symm.trans hg1)
  obtain rfl := Option.some.inj ((show (Tryz.prog.globals[1]?).map (·.type) = some 155 by kernel_rfl).symm.trans ht0)
  obtain rfl := Option.some.inj ((show (Tryz.prog.globals[2]?).map (·.type) = some 173 by kernel_rfl).symm.trans ht1)
  rw [datStart] at hd0
  rw [datNums] at hd1
  have s0 := trod_u32s Tryz.underlying155 rfl hd0
  have s1 := trod_u32s Tryz.underlying173 rfl hd1
  have c1 : ∀ (i : Nat) x, Sha.K[i]? = some x → W.cell? ⟨2, i, none⟩ = some (.int .u32 ((x : Nat) : Int)) := fun i x hx => by
    rw [World.var?_cell hg1 hv1 i]
    have := s1 i x hx
    simpa using this
  refine ⟨⟨?_, c1⟩, fun i x hx => ?_⟩
  · exact World.block_lt_of_cell? W _ (c1 0 _ rfl)
  · rw [World.var?_cell hg0 hv0 i]
    have := s0 i x hx
    simpa using this
section
variable {H : Type} {enc : TypeId × Value → H} {W : World}
theorem open_u8 {fuel : Nat} {cs : List Value} {x : DataW H × List MemPlace} (h : DataW.trod enc Tryz.prog W 0 (fun _ => true) true fuel 5 cs = some x) : ∃ y : Nat, cs = [.int .u8 (y : Int)] ∧ y < 256 := by
  obtain ⟨a, e0, _, w0⟩ := DataW.trod_int Tryz.underlying5 h
  have hb : 0 ≤ a ∧ a < 256 := by
    have h2 : IntKind.u8.min ≤ a ∧ a ≤ IntKind.u8.max := by simpa [Lit.wf] using w0
    have e1 : IntKind.u8.min = 0 := rfl
    have e2 : IntKind.u8.max = 255 := rfl
    omega
  exact ⟨a.toNat, by rw [e0, Int.toNat_of_nonneg hb.1], by omega⟩
/-- a slice of rows of s cells is opened, element by element. -/
theorem open_rows {α : Type} (d0 : α) {s : Nat} {R : World → α → List Value → Prop} {t e : TypeId} (ht : Tryz.prog.underlying t = some (.slice e)) (hs : Tryz.prog.cellsOf e = s) (h0 : 0 < s)
    (hel : ∀ {fuel : Nat} {cs : List Value} {x : DataW H × List MemPlace}, DataW.trod enc Tryz.prog W 0 (fun _ => true) true fuel e cs = some x → ∃ y, R W y cs ∧ cs.length = s)
    {fuel : Nat} {cs : List Value} {x : DataW H × List MemPlace} (h : DataW.trod enc Tryz.prog W 0 (fun _ => true) true fuel t cs = some x) : ∃ a n c l, cs = [.slice a n c] ∧ RS s R (fun _ => True) W a n c l := by
  rcases Deep.open_slice ht h with ⟨rfl, _⟩ | ⟨ad, len, cap, m, k, D, Pl, rfl, hb, hl, hm, hmm, _, hx⟩
  · exact ⟨none, 0, 0, [], rfl, RS.nil0 _ _ _⟩
  · simp at hmm
    subst hmm
    rw [hs] at hx
    have each : ∀ i, i < m → ∃ q : α × List Value, (∀ j u, q.2[j]? = some u → W.cell? ((ad.add (i * s)).add j) = some u) ∧ R W q.1 q.2 ∧ q.2.length = s := by
      intro i hi
      obtain ⟨cs', h1, h2⟩ := hx i hi
      obtain ⟨_, hlen, hcell⟩ := World.cells?_some h1
      obtain ⟨y, hy, hl4⟩ := hel h2
      refine ⟨(y, cs'), fun j u hu => ?_, hy, hl4⟩
      have hj := (List.getElem?_eq_some_iff.1 hu).1
      have := hcell j (by rw [← hlen]; exact hj)
      rw [this]
      simpa using hu
    have : Inhabited (α × List Value) := ⟨(d0, [])⟩
    obtain ⟨T, hT⟩ := Deep.choose_lt each
    have hrs : ∀ r ∈ (List.range len).map (fun i => (T i).2), r.length = s := fun r hr => by
      obtain ⟨i, hi, rfl⟩ := List.mem_map.1 hr
      exact (hT i (by have := List.mem_range.1 hi; omega)).2.2
    refine ⟨_, len, m, (List.range len).map (fun i => (T i).1), rfl, by simp, fun _ _ _ => trivial, (List.range len).map (fun i => (T i).2), ⟨?_, hl, hm, (fun e => by cases e), fun hn => ?_⟩, ⟨by simp, hrs, fun i e r he hr => ?_⟩⟩
    · rw [flat_len hrs]; simp
    · obtain ⟨b, off, spot⟩ := ad
      have hrow : ∀ i, i < len → ∀ j, j < s → ∃ u, (T i).2[j]? = some u := fun i hi j hj => ⟨_, List.getElem?_eq_getElem (by rw [(hT i (by omega)).2.2]; exact hj)⟩
      obtain ⟨u0, hu0⟩ := hrow 0 hn 0 h0
      have c0 := (hT 0 (by omega)).1 0 u0 hu0
      have hspot : spot = none := by simpa [Addr.add] using World.cell?_spot c0
      subst hspot
      have hbl : b < W.heap.size := World.block_lt_of_cell? W _ (by simpa [Addr.add] using c0)
      refine ⟨b, off, rfl, hbl, fun j u hj => ?_⟩
      have hjl := (List.getElem?_eq_some_iff.1 hj).1
      rw [flat_len hrs] at hjl
      simp only [List.length_map, List.length_range] at hjl
      have hi : j / s < len := Nat.div_lt_of_lt_mul (by rw [Nat.mul_comm]; exact hjl)
      have hjm := Nat.mod_lt j h0
      have hdm : j / s * s + j % s = j := by rw [Nat.mul_comm]; exact Nat.div_add_mod j s
      obtain ⟨v, hv⟩ := hrow (j / s) hi (j % s) hjm
      have hg := flat_get (i := j / s) (j := j % s) hrs (r := (T (j / s)).2) (by simp [hi]) hv
      rw [hdm, hj] at hg
      cases hg
      have := (hT (j / s) (by omega)).1 _ _ hv
      rw [Addr.add_lit, Addr.add_lit] at this
      rw [show off + j = off + j / s * s + j % s by omega]
      exact this
    · have hi : i < len := by have := (List.getElem?_eq_some_iff.1 he).1; simpa using this
      rw [List.getElem?_map, List.getElem?_range hi] at he hr
      simp at he hr
      subst he hr
      exact (hT i (by omega)).2.1

def DR (_ : World) (d : List Nat) (r : List Value) : Prop := r = bv d ∧ d.length = 32 ∧ ∀ u ∈ d, u < 256
theorem ds_of_rs {a : Option Addr} {n c : Nat} {l : List (List Nat)} (h : RS 32 DR (fun _ => True) W a n c l) : DS W a n c l := by
  refine ⟨h.len, h.le, h.max, fun e => (h.nil' e).1, fun hn ad e => ?_, fun x hx => ?_⟩
  · obtain ⟨rows, hR, hO⟩ := h.rows
    obtain ⟨b, off, e2, hlt, hc⟩ := hR.cells hn
    rw [e] at e2
    cases e2
    refine ⟨b, off, rfl, hlt, fun i x hx => ?_⟩
    obtain ⟨r, _, hr, _, hf⟩ := hO.get hx
    intro j u hj
    rw [Nat.add_assoc, Nat.mul_comm 32 i]
    exact hc _ u (hf j u (by rw [hr.1]; exact hj))
  · obtain ⟨i, hi, e⟩ := List.getElem_of_mem hx
    obtain ⟨_, _, r, _, _, _, hr, _⟩ := h.get (List.getElem?_eq_some_iff.2 ⟨hi, e⟩)
    exact hr.2
theorem open_digs {fuel : Nat} {cs : List Value} {x : DataW H × List MemPlace} (h : DataW.trod enc Tryz.prog W 0 (fun _ => true) true fuel 66 cs = some x) : ∃ a n c l, cs = [.slice a n c] ∧ DS W a n c l := by
  obtain ⟨a, n, c, l, e, hR⟩ := open_rows (R := DR) [] Tryz.underlying66 cells35 (by decide) (fun h => by
    obtain ⟨D, e, h1, h2⟩ := open_digest h
    exact ⟨D, ⟨e, h1, h2⟩, by rw [e, bv_length, h1]⟩) h
  exact ⟨a, n, c, l, e, ds_of_rs hR⟩

theorem len_one : ∀ {l : List Value}, l.length = 1 → ∃ u, l = [u]
  | [u], _ => ⟨u, rfl⟩
theorem open_rt {fuel : Nat} {cs : List Value} {x : DataW H × List MemPlace} (h : DataW.trod enc Tryz.prog W 0 (fun _ => true) true fuel 27 cs = some x) : ∃ y : Rt, OkQ y ∧ cs = rC y := by
  obtain ⟨xs, n, _, rfl, hl, hlen, hf⟩ := DataW.trod_struct Tryz.underlying27 h
  rw [cellsRt] at hl
  match xs, hlen with
  | [y0, y1, y2, y3], _ =>
    have h0 : DataW.trod enc Tryz.prog W 0 (fun _ => true) true n 3 ((cs.drop 0).take (Tryz.prog.cellsOf 3)) = some y0 := hf 0 _ rfl
    rw [cellsInt] at h0
    have h1 : DataW.trod enc Tryz.prog W 0 (fun _ => true) true n 23 ((cs.drop 1).take (Tryz.prog.cellsOf 23)) = some y1 := hf 1 _ rfl
    rw [cells35] at h1
    have h2 : DataW.trod enc Tryz.prog W 0 (fun _ => true) true n 23 ((cs.drop 33).take (Tryz.prog.cellsOf 23)) = some y2 := hf 2 _ rfl
    rw [cells35] at h2
    have h3 : DataW.trod enc Tryz.prog W 0 (fun _ => true) true n 25 ((cs.drop 65).take (Tryz.prog.cellsOf 25)) = some y3 := hf 3 _ rfl
    rw [cellsSig] at h3
    obtain ⟨no, e0, i0⟩ := open_int1 h0
    obtain ⟨D, e1, hD, hDu⟩ := open_digest h1
    obtain ⟨E, e2, hE, hEu⟩ := open_digest h2
    obtain ⟨ys, n4, _, _, hl4, hlen4, hf4⟩ := DataW.trod_struct Tryz.underlying25 h3
    match ys, hlen4 with
    | [z0, z1], _ =>
      have g0 : DataW.trod enc Tryz.prog W 0 (fun _ => true) true n4 3 ((((cs.drop 65).take 2).drop 0).take (Tryz.prog.cellsOf 3)) = some z0 := hf4 0 _ rfl
      rw [cellsInt] at g0
      have g1 : DataW.trod enc Tryz.prog W 0 (fun _ => true) true n4 3 ((((cs.drop 65).take 2).drop 1).take (Tryz.prog.cellsOf 3)) = some z1 := hf4 1 _ rfl
      rw [cellsInt] at g1
      obtain ⟨R, e4, i4⟩ := open_int1 g0
      obtain ⟨S, e5, i5⟩ := open_int1 g1
      have e45 : (cs.drop 65).take 2 = [.int .i64 R, .int .i64 S] := by
        clear h0 h1 h2 h3 g0 g1 hf hf4 e0 e1 e2
        rw [cellsSig] at hl4
        obtain ⟨u, v, huv⟩ := len_two hl4
        rw [huv] at e4 e5 ⊢
        simp at e4 e5
        rw [e4, e5]
      have q67 : cs.drop 67 = [] := List.drop_eq_nil_of_le (by omega)
      have q65 : cs.drop 65 = [.int .i64 R, .int .i64 S] := by rw [drop_parts cs 65 2 67 rfl, e45, q67]; rfl
      have q33 : cs.drop 33 = bv E ++ [.int .i64 R, .int .i64 S] := by rw [drop_parts cs 33 32 65 rfl, e2, q65]
      have q1 : cs.drop 1 = bv D ++ (bv E ++ [.int .i64 R, .int .i64 S]) := by rw [drop_parts cs 1 32 33 rfl, e1, q33]
      have q0 : cs.drop 0 = [.int .i64 no] ++ (bv D ++ (bv E ++ [.int .i64 R, .int .i64 S])) := by rw [drop_parts cs 0 1 1 rfl, e0, q1]
      exact ⟨⟨no, D, E, R, S⟩, ⟨i0, hD, hDu, hE, hEu, i4, i5⟩, q0⟩
theorem open_rts {fuel : Nat} {cs : List Value} {x : DataW H × List MemPlace} (h : DataW.trod enc Tryz.prog W 0 (fun _ => true) true fuel 32 cs = some x) : ∃ a n c l, cs = [.slice a n c] ∧ QS (fun _ => True) W a n c l :=
  open_rows (R := QV) Go.Dr.zeroR Tryz.underlying32 cellsRt (by decide) (fun h => by
    obtain ⟨y, ok, e⟩ := open_rt h
    exact ⟨y, ⟨ok, e⟩, by rw [e, rC_length ok]⟩) h
theorem open_ls {fuel : Nat} {cs : List Value} {x : DataW H × List MemPlace} (h : DataW.trod enc Tryz.prog W 0 (fun _ => true) true fuel 36 cs = some x) : ∃ y : Lst, OkG y ∧ cs = gC y := by
  obtain ⟨xs, n, _, rfl, hl, hlen, hf⟩ := DataW.trod_struct Tryz.underlying36 h
  rw [cellsLs] at hl
  match xs, hlen with
  | [y0, y1, y2, y3, y4], _ =>
    have h0 : DataW.trod enc Tryz.prog W 0 (fun _ => true) true n 3 ((cs.drop 0).take (Tryz.prog.cellsOf 3)) = some y0 := hf 0 _ rfl
    rw [cellsInt] at h0
    have h1 : DataW.trod enc Tryz.prog W 0 (fun _ => true) true n 3 ((cs.drop 1).take (Tryz.prog.cellsOf 3)) = some y1 := hf 1 _ rfl
    rw [cellsInt] at h1
    have h2 : DataW.trod enc Tryz.prog W 0 (fun _ => true) true n 3 ((cs.drop 2).take (Tryz.prog.cellsOf 3)) = some y2 := hf 2 _ rfl
    rw [cellsInt] at h2
    have h3 : DataW.trod enc Tryz.prog W 0 (fun _ => true) true n 3 ((cs.drop 3).take (Tryz.prog.cellsOf 3)) = some y3 := hf 3 _ rfl
    rw [cellsInt] at h3
    have h4 : DataW.trod enc Tryz.prog W 0 (fun _ => true) true n 4 ((cs.drop 4).take (Tryz.prog.cellsOf 4)) = some y4 := hf 4 _ rfl
    rw [cellsBo] at h4
    obtain ⟨a, e0, i0⟩ := open_int1 h0
    obtain ⟨b, e1, i1⟩ := open_int1 h1
    obtain ⟨c, e2, i2⟩ := open_int1 h2
    obtain ⟨d, e3, i3⟩ := open_int1 h3
    obtain ⟨g, e4, _⟩ := DataW.trod_bool Tryz.underlying4 h4
    have q5 : cs.drop 5 = [] := List.drop_eq_nil_of_le (by omega)
    have q4 : cs.drop 4 = [.bool g] := by rw [drop_parts cs 4 1 5 rfl, e4, q5]; rfl
    have q3 : cs.drop 3 = [.int .i64 d, .bool g] := by rw [drop_parts cs 3 1 4 rfl, e3, q4]; rfl
    have q2 : cs.drop 2 = [.int .i64 c, .int .i64 d, .bool g] := by rw [drop_parts cs 2 1 3 rfl, e2, q3]; rfl
    have q1 : cs.drop 1 = [.int .i64 b, .int .i64 c, .int .i64 d, .bool g] := by rw [drop_parts cs 1 1 2 rfl, e1, q2]; rfl
    have q0 : cs.drop 0 = [.int .i64 a, .int .i64 b, .int .i64 c, .int .i64 d, .bool g] := by rw [drop_parts cs 0 1 1 rfl, e0, q1]; rfl
    exact ⟨⟨a, b, c, d, g⟩, ⟨i0, i1, i2, i3⟩, q0⟩
theorem open_lss {fuel : Nat} {cs : List Value} {x : DataW H × List MemPlace} (h : DataW.trod enc Tryz.prog W 0 (fun _ => true) true fuel 31 cs = some x) : ∃ a n c l, cs = [.slice a n c] ∧ GS (fun _ => True) W a n c l :=
  open_rows (R := GV) Go.Dr.zeroL Tryz.underlying31 cellsLs (by decide) (fun h => by
    obtain ⟨y, ok, e⟩ := open_ls h
    exact ⟨y, ⟨ok, e⟩, by rw [e]; rfl⟩) h
theorem open_boo {fuel : Nat} {cs : List Value} {x : DataW H × List MemPlace} (h : DataW.trod enc Tryz.prog W 0 (fun _ => true) true fuel 4 cs = some x) : ∃ g, cs = [.bool g] := by
  obtain ⟨g, e, _⟩ := DataW.trod_bool Tryz.underlying4 h
  exact ⟨g, e⟩
theorem cellsDr : Tryz.prog.cellsOf 34 = 3 := by kernel_rfl
theorem cellsLl : Tryz.prog.cellsOf 31 = 1 := by kernel_rfl
theorem cellsRl : Tryz.prog.cellsOf 32 = 1 := by kernel_rfl
theorem open_dir {fuel : Nat} {cs : List Value} {x : DataW H × List MemPlace} (h : DataW.trod enc Tryz.prog W 0 (fun _ => true) true fuel 34 cs = some x) : ∃ (D : Dir) (la : Option Addr) (ln lc : Nat) (ra : Option Addr) (rn rc : Nat), cs = dirC D.priv la ln lc ra rn rc ∧ DM (fun _ => True) W D la ln lc ra rn rc := by
  obtain ⟨xs, n, _, rfl, hl, hlen, hf⟩ := DataW.trod_struct Tryz.underlying34 h
  rw [cellsDr] at hl
  match xs, hlen with
  | [y0, y1, y2], _ =>
    have h0 : DataW.trod enc Tryz.prog W 0 (fun _ => true) true n 3 ((cs.drop 0).take (Tryz.prog.cellsOf 3)) = some y0 := hf 0 _ rfl
    rw [cellsInt] at h0
    have h1 : DataW.trod enc Tryz.prog W 0 (fun _ => true) true n 31 ((cs.drop 1).take (Tryz.prog.cellsOf 31)) = some y1 := hf 1 _ rfl
    rw [cellsLl] at h1
    have h2 : DataW.trod enc Tryz.prog W 0 (fun _ => true) true n 32 ((cs.drop 2).take (Tryz.prog.cellsOf 32)) = some y2 := hf 2 _ rfl
    rw [cellsRl] at h2
    obtain ⟨p, e0, i0⟩ := open_int1 h0
    obtain ⟨la, ln, lc, l, e1, hG⟩ := open_lss h1
    obtain ⟨ra, rn, rc, r, e2, hQ⟩ := open_rts h2
    have q3 : cs.drop 3 = [] := List.drop_eq_nil_of_le (by omega)
    have q2 : cs.drop 2 = [.slice ra rn rc] := by rw [drop_parts cs 2 1 3 rfl, e2, q3]; rfl
    have q1 : cs.drop 1 = [.slice la ln lc, .slice ra rn rc] := by rw [drop_parts cs 1 1 2 rfl, e1, q2]; rfl
    have q0 : cs.drop 0 = [.int .i64 p, .slice la ln lc, .slice ra rn rc] := by rw [drop_parts cs 0 1 1 rfl, e0, q1]; rfl
    exact ⟨⟨p, l, r⟩, la, ln, lc, ra, rn, rc, q0, i0, hG, hQ⟩
end
end Go.Proofs.YthhblcbnnmoojaaGreatDoor
