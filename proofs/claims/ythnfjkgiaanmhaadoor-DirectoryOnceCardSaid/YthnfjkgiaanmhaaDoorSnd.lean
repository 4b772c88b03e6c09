/- sane of chapter 35's laws -/
import Derived.Test.YthnfjkgiaanmhaaDoorSeu
import Derived.Test.YthnfjkgiaanmhaaDoorVfy
namespace Go.Dr
def exL : Lst := ⟨3, 4, 16, 1, false⟩
theorem ok16 : Grp.ok 16 = true := by
  have h := Grp.ok_pw Grp.base_ord 2
  have e : Grp.pw 4 2 = 16 := by decide
  rw [e] at h
  exact h
theorem ok0 : Grp.ok 0 = false := by unfold Grp.ok; rw [decide_eq_false_iff_not]; omega
theorem exL_fits : fitsB exL = true := by
  have h4 := Go.Proofs.YthnfjkgiaanmhaaDoor.base_ok
  have h16 := ok16
  unfold fitsB exL
  rw [h4, h16]
  rfl
theorem zeroL_fits : fitsB zeroL = false := by unfold fitsB zeroL; simp
open Go.Proofs.YthnfjkgiaanmhaaDoor (OkQ keyOk I64)
/-- the example of the chapter. -/
structure Dex (b pub : Int) (r : Rt) : Prop where
  set : setD b ⟨5, [], []⟩ exL = (⟨5, [exL], [r]⟩, 0)
  set0 : setD b ⟨5, [], []⟩ zeroL = (zeroDir, 350)
  no : r.no = 1
  prev : r.prev = zd
  dig : r.dig = rootD [exL]
  sg : signedB b pub r = true
  sg0 : signedB b pub zeroR = false
theorem key5 : keyOk 5 = true := by decide
theorem chk0 : chkL [] = true := rfl
theorem ins0 : insL exL [] = [exL] := rfl
theorem dex_there {b : Int} (hb : Grp.ok b = true) : ∃ r, Dex b (Go.Proofs.YthnfjkgiaanmhaaDoor.pubB b 5) r := by
  refine ⟨nextR b ⟨5, [exL], []⟩, ?_, ?_, rfl, rfl, rfl, next_signed (D := ⟨5, [exL], []⟩) hb key5 (by decide), ?_⟩
  · unfold setD
    rw [if_pos key5, if_pos chk0, if_pos (by rw [exL_fits]; rfl)]
    unfold tickD
    rw [if_pos key5, if_pos (show chkL (insL exL []) = true from chk_insL exL_fits chk0), if_pos (by decide)]
    simp only [ins0, List.nil_append]
  · unfold setD
    rw [if_pos key5, if_pos chk0, if_neg (by rw [zeroL_fits]; simp)]
  · unfold signedB zeroR
    rw [decide_eq_false (by show ¬ (1 ≤ (0 : Int) ∧ (0 : Int) ≤ 65536); omega)]; rfl
theorem ex_chk : chkL [exL] = true := by
  have h := chk_insL exL_fits chk0
  rw [ins0] at h
  exact h
theorem ex_path : verP (rootD [exL]) exL false (pathD [exL] 3) = true := by
  have h := change (l := []) (x := exL) (by decide)
  rw [ins0] at h
  exact h
theorem ex_other : verP (rootD [exL]) ⟨4, 0, 0, 0, false⟩ true (pathD [exL] 4) = true := by
  have := proves (l := [exL]) (dev := 4) (by decide) (x := ⟨4, 0, 0, 0, false⟩) (listed := false) (.inr ⟨by decide, rfl, rfl⟩)
  exact this
end Go.Dr
namespace Go.Proofs.YthnfjkgiaanmhaaDoor
open Go.RowKit Go.Mem
open Go.Dr (Lst Rt Dir exL)

/-- a long load under a guard that holds. -/
theorem wpList_load_gd {P : Program} {ops : Array Oper} {rest : List Oper} {op : Oper} {a : Act} {w : World} {Q : Exit → Act → World → Prop} (hw : Region.wanted op (yielded ops a.tmps) = true) (ty : TypeId) (x : Operand) (ho : op.op = .load ty x)
    (b o : Nat) (hx : a.eval x = .pointer (some ⟨b, o, none⟩)) (cs : List Value) (d : TypeDesc) (hc : w.rangeAt b o cs)
    (hu : P.underlying ty = some d) (hd : d.isRow = true) (hi : (P.info? ty).map (·.size) = some cs.length)
    (h : wpList P ops Q rest (a.put op.dst (.agg cs.toArray)) w) : wpList P ops Q (op :: rest) a w :=
  BigFrame.wpList_want hw fun _ hK => wp_load_mid ty x ho b o hx cs d hc hu hd hi (hK _ _ h)
theorem ownD_ds {w : World} {B : Nat} {v : Value} {ds : List (List Nat)} (h : OwnD B w v ds) : ∃ a c, v = .slice a ds.length c ∧ DS w a ds.length c ds := by
  obtain ⟨a, c, rfl, hR, hs⟩ := Sl.of_owns h.1
  refine ⟨a, c, rfl, rfl, hR.le, by have := hR.max; unfold maxLen at this; omega, fun e => (hR.nil e).1, fun hn ad e => ?_, h.2⟩
  obtain ⟨b, off, e2, hlt, hc⟩ := hR.cells hn
  rw [e] at e2
  cases e2
  refine ⟨b, off, rfl, hlt, fun i x hi j v hv => ?_⟩
  have hsz : ∀ r ∈ ds.map bv, r.length = 32 := by intro r hr; obtain ⟨d, hd, rfl⟩ := List.mem_map.1 hr; rw [bv_length]; exact (h.2 d hd).1
  have := hc (i * 32 + j) v (flat_get hsz (by rw [List.getElem?_map, hi]; rfl) hv)
  rw [Nat.add_assoc, Nat.mul_comm 32]
  exact this
theorem dr_one (p : Int) (a : Option Addr) (n c : Nat) (b : Option Addr) (m d : Nat) : ∀ u ∈ dirC p a n c b m d, u.oneCell' = true := by intro u hu; simp only [dirC, List.mem_cons, List.not_mem_nil, or_false] at hu; rcases hu with rfl | rfl | rfl <;> rfl
theorem dm_new (p : Int) (hp : I64 p) (w : World) : DM (fun _ => True) w ⟨p, [], []⟩ none 0 0 none 0 0 := ⟨hp, RS.nil0 _ _ _, RS.nil0 _ _ _⟩
theorem okL_ex : OkG exL := ⟨⟨by decide, by decide⟩, ⟨by decide, by decide⟩, ⟨by decide, by decide⟩, ⟨by decide, by decide⟩⟩
theorem okL_zero : OkG Go.Dr.zeroL := ⟨i64_0, i64_0, i64_0, i64_0⟩
def zdV : List Value := dirC 0 none 0 0 none 0 0

/-- Set, Prove, where the answer is known. -/
theorem set_at {D E : Dir} {x : Lst} {la : Option Addr} {ln lc : Nat} {ra : Option Addr} {rn rc : Nat} {w : World} (h : Go.Dr.setD 4 D x = (E, 0)) (hx : OkG x) (HT : Tabs w) (H : DM (fun _ => True) w D la ln lc ra rn rc) :
    Calls Tryd.prog 9 #[.agg (dirC D.priv la ln lc ra rn rc).toArray, .agg (gC x).toArray] w (fun e w' => ∃ a c b d, e = .returned (.tuple #[.agg (dirC E.priv a E.ls.length c b E.rs.length d).toArray, .int .i64 0]) ∧ DM (fun b => w.heap.size ≤ b) w' E a E.ls.length c b E.rs.length d ∧ Below w.heap.size w w') := by
  have h1 := set_any (fun _ => True) D la ln lc ra rn rc x hx w HT H
  rw [h] at h1
  refine h1.mono ?_
  rintro e w' (⟨_, a, n, c, b, m, d, rfl, hD, hb⟩ | ⟨h0, _⟩)
  · obtain rfl : E.ls.length = n := RS.len hD.gs
    obtain rfl : E.rs.length = m := RS.len hD.qs
    exact ⟨a, c, b, d, rfl, hD, hb⟩
  · exact absurd rfl h0
theorem set_no {D E : Dir} {x : Lst} {q : Int} {la : Option Addr} {ln lc : Nat} {ra : Option Addr} {rn rc : Nat} {w : World} (h : Go.Dr.setD 4 D x = (E, q)) (hq : q ≠ 0) (hx : OkG x) (HT : Tabs w) (H : DM (fun _ => True) w D la ln lc ra rn rc) :
    Calls Tryd.prog 9 #[.agg (dirC D.priv la ln lc ra rn rc).toArray, .agg (gC x).toArray] w (fun e w' => e = .returned (.tuple #[.agg zdV.toArray, .int .i64 q]) ∧ Below w.heap.size w w') := by
  have h1 := set_any (fun _ => True) D la ln lc ra rn rc x hx w HT H
  rw [h] at h1
  refine h1.mono ?_
  rintro e w' (⟨h0, _⟩ | ⟨_, rfl, hb⟩)
  · exact absurd h0 hq
  · exact ⟨rfl, hb⟩
theorem prove_at {l : List Lst} {dev : Int} (hd : 0 ≤ dev ∧ dev < 512) {a : Option Addr} {n c : Nat} {w : World} (HT : Tabs w) (H : GS (fun _ => True) w a n c l) :
    Calls Tryd.prog 10 #[.slice a n c, .int .i64 dev] w (fun e w' => ∃ v d, e = .returned (.tuple #[.slice v 9 d, .int .i64 0]) ∧ DS w' v 9 d (Go.Dr.pathD l dev) ∧ Below w.heap.size w w') := by
  refine (prove_any (fun _ => True) a n c l dev ⟨by omega, by omega⟩ w HT H).mono ?_
  rintro e w' (⟨_, _, v, rfl, ho, hb⟩ | ⟨h, _⟩)
  · obtain ⟨v2, d, rfl, hS⟩ := ownD_ds ho
    have hl : (Go.Dr.pathD l dev).length = 9 := Go.Dr.pathGo_length _ _ _ _
    rw [hl] at hS ⊢
    exact ⟨v2, d, rfl, hS, hb⟩
  · exact absurd hd h
theorem prove_no {l : List Lst} {dev : Int} (hi : I64 dev) (hd : ¬ (0 ≤ dev ∧ dev < 512)) {a : Option Addr} {n c : Nat} {w : World} (HT : Tabs w) (H : GS (fun _ => True) w a n c l) :
    Calls Tryd.prog 10 #[.slice a n c, .int .i64 dev] w (fun e w' => e = .returned (.tuple #[.slice none 0 0, .int .i64 200]) ∧ Below w.heap.size w w') := by
  refine (prove_any (fun _ => True) a n c l dev hi w HT H).mono ?_
  rintro e w' (⟨h1, h2, _⟩ | ⟨_, rfl, hb⟩)
  · exact absurd ⟨h1, h2⟩ hd
  · exact ⟨rfl, hb⟩
theorem new_at {k : Int} (hk : keyOk k = true) (w : World) : Calls Tryd.prog 7 #[.int .i64 k] w (fun e w' => e = .returned (.tuple #[.agg (dirC k none 0 0 none 0 0).toArray, .int .i64 0]) ∧ Below w.heap.size w w') := by
  have h := dnew_any k w
  unfold NewPost Go.Dr.newD at h
  rw [if_pos hk] at h
  exact h
theorem new_no {k : Int} (hk : keyOk k = false) (w : World) : Calls Tryd.prog 7 #[.int .i64 k] w (fun e w' => e = .returned (.tuple #[.agg zdV.toArray, .int .i64 50]) ∧ Below w.heap.size w w') := by
  have h := dnew_any k w
  unfold NewPost Go.Dr.newD at h
  rw [if_neg (by rw [hk]; simp)] at h
  exact h

set_option maxRecDepth 100000 in
set_option maxHeartbeats 20000000 in
theorem sane35_any (w : World) (HT : Tabs w) : Calls Tryd.prog 4 #[] w (RetBo true w) := by
  have HT' := Lib.hid HT
  clear HT
  obtain ⟨pq, hpq⟩ : ∃ pq, Hid (pubB 4 5 = pq) := ⟨_, rfl⟩
  have hpb : Hid (I64 pq) := by have := pubB_bd 4 5; rw [hpq.out] at this; exact ⟨by omega, by omega⟩
  obtain ⟨r, hDx⟩ := Go.Dr.dex_there (b := 4) base_ok
  rw [hpq.out] at hDx
  have hDx' := Lib.hid hDx
  clear hDx
  obtain ⟨X, hX⟩ : ∃ X, X = RetBo true w := ⟨_, rfl⟩
  have hfin : Hid (∀ W, Below w.heap.size w W → X (.returned (.bool true)) W) := fun W hb => by rw [hX]; exact ⟨rfl, hb⟩
  rw [← hX]
  clear hX
  have hpub : Hid (∀ W, Calls Tryd.prog 8 #[.int .i64 5] W (fun e w' => e = .returned (.tuple #[.int .i64 pq, .int .i64 0]) ∧ Below W.heap.size W w')) := fun W => by
    have h := Public_any 5 W
    rw [publicK_t Go.Dr.key5, hpq.out] at h
    exact h
  clear hpq
  go_enter Tryd.func4, Tryd.ntmps4
  go_wp2_with fail
  refine (new_at Go.Dr.key5 _).mono ?_
  rintro e w1 ⟨rfl, hbw0⟩
  have hbw := Lib.hid hbw0
  clear hbw0
  obtain ⟨v1, hP⟩ : ∃ V, Hid (PutR 36 (w1.alloc (.cells (dirC 0 none 0 0 none 0 0 : List Value).toArray 36)) V w1.heap.size 36 (dirC 5 none 0 0 none 0 0)) := put_row (Blk.new w1 36 (dirC 0 none 0 0 none 0 0)) rfl (sizeDr) (dr_one _ _ _ _ _ _ _)
  have hst := below_grown ((Below.refl _ w1).alloc (Nat.le_refl _) _) hP.out.grown (by simp) (Nat.le_refl _)
  replace hbw := Lib.hid (hbw.out.trans (hst.mono hbw.out.size))
  clear hst
  have hB1 := Lib.hid hP.out.blk
  go_wp2_with (first
    | (refine wpList_store_mid (by rfl) 36 (.tmp 1) (.tmp 21) (by rfl) w1.heap.size 0 (dirC 5 none 0 0 none 0 0).toArray (by rfl) (by rfl) hP.out.there hP.out.info (by simpa using hP.out.one) ?_
       generalize hWq : World.setCells _ _ _ _ = Wa
       obtain rfl : v1 = Wa := by rw [← hWq]; exact hP.out.eq
       clear hWq))
  clear hP
  refine (hpub.out _).mono ?_
  rintro e w2 ⟨rfl, hst⟩
  replace hB1 := Lib.hid (hB1.out.below hst hB1.out.lt)
  replace hbw := Lib.hid (hbw.out.trans (hst.mono hbw.out.size))
  clear hst hpub
  obtain ⟨v2, hP⟩ : ∃ V, Hid (PutR 25 (w2.alloc (.cells (zG : List Value).toArray 25)) V w2.heap.size 25 (gC exL)) := put_row (Blk.new w2 25 (zG)) rfl (sizeG) (gC_one _)
  have hst := below_grown ((Below.refl _ w2).alloc (Nat.le_refl _) _) hP.out.grown (by simp) (Nat.le_refl _)
  replace hB1 := Lib.hid (hB1.out.below hst hB1.out.lt)
  replace hbw := Lib.hid (hbw.out.trans (hst.mono hbw.out.size))
  clear hst
  have hB5 := Lib.hid hP.out.blk
  have b0 := hB1.out.at_ (i := 0) (x := .int .i64 5) rfl
  have b1 := hB1.out.at_ (i := 1) (x := .slice none 0 0) rfl
  have b2 := hB1.out.at_ (i := 2) (x := .slice none 0 0) rfl
  have l0 := hB5.out.at_ (i := 0) (x := .int .i64 3) rfl
  have l1 := hB5.out.at_ (i := 1) (x := .int .i64 4) rfl
  have l2 := hB5.out.at_ (i := 2) (x := .int .i64 16) rfl
  have l3 := hB5.out.at_ (i := 3) (x := .int .i64 1) rfl
  have l4 := hB5.out.at_ (i := 4) (x := .bool false) rfl
  go_wp2_with (first
    | (refine wpList_store_mid (by rfl) 25 (.tmp 5) (.tmp 27) (by rfl) w2.heap.size 0 (gC exL).toArray (by rfl) (by rfl) hP.out.there hP.out.info (by simpa using hP.out.one) ?_
       generalize hWq : World.setCells _ _ _ _ = Wa
       obtain rfl : v2 = Wa := by rw [← hWq]; exact hP.out.eq
       clear hWq))
  clear hP b0 b1 b2 l0 l1 l2 l3 l4
  refine (set_at hDx'.out.set okL_ex (HT'.out.below hbw.out) (dm_new 5 ⟨by decide, by decide⟩ _)).mono ?_
  rintro e w3 ⟨la, lc, ra, rc, rfl, hD0, hst⟩
  replace hB1 := Lib.hid (hB1.out.below hst hB1.out.lt)
  replace hB5 := Lib.hid (hB5.out.below hst hB5.out.lt)
  replace hbw := Lib.hid (hbw.out.trans (hst.mono hbw.out.size))
  have hD : Hid (DM (fun _ => True) w3 ⟨5, [exL], [r]⟩ la 1 lc ra 1 rc) := hD0.imp fun _ _ _ => trivial
  clear hst hD0
  obtain ⟨v3, hP⟩ : ∃ V, Hid (PutR 36 (w3.alloc (.cells (dirC 0 none 0 0 none 0 0 : List Value).toArray 36)) V w3.heap.size 36 (dirC 5 la 1 lc ra 1 rc)) := put_row (Blk.new w3 36 (dirC 0 none 0 0 none 0 0)) rfl (sizeDr) (dr_one _ _ _ _ _ _ _)
  have hst := below_grown ((Below.refl _ w3).alloc (Nat.le_refl _) _) hP.out.grown (by simp) (Nat.le_refl _)
  replace hB1 := Lib.hid (hB1.out.below hst hB1.out.lt)
  replace hB5 := Lib.hid (hB5.out.below hst hB5.out.lt)
  replace hD := Lib.hid (hD.out.below hst)
  replace hbw := Lib.hid (hbw.out.trans (hst.mono hbw.out.size))
  clear hst
  have hB6 := Lib.hid hP.out.blk
  have y0 := hB6.out.at_ (i := 0) (x := .int .i64 5) rfl
  have y1 := hB6.out.at_ (i := 1) (x := .slice la 1 lc) rfl
  have y2 := hB6.out.at_ (i := 2) (x := .slice ra 1 rc) rfl
  obtain ⟨rb, ro, era, _, _, hrk, hrr0⟩ := hD.out.qs.cells (k := 0) (x := r) rfl
  rw [Nat.zero_mul, Nat.add_zero] at hrr0
  have hrk' := Lib.hid hrk
  have hrr := Lib.hid hrr0
  subst era
  clear hrk hrr0
  have hri : Hid ((Tryd.prog.info? 46).map (·.size) = some (rC r).length) := by show _ = _; rw [rC_length hrk'.out]; exact sizeR
  obtain ⟨v4, hP8⟩ : ∃ V, Hid (PutR 46 (v3.alloc (.cells (rC Go.Dr.zeroR).toArray 46)) V v3.heap.size 46 (rC r)) := put_row (Blk.new v3 46 (rC Go.Dr.zeroR)) (by rw [rC_length hrk'.out, rC_length okZ]) (hri.out) (rC_one r)
  have hrx : Hid (rC r = rC r) := rfl
  obtain ⟨rr, hre⟩ : ∃ rr, Hid (rC r = rr) := ⟨_, rfl⟩
  rw [hre.out] at hP8 hrr hri
  go_wp2_with (first
    | (refine wpList_store_mid (by rfl) 36 (.tmp 6) (.tmp 32) (by rfl) w3.heap.size 0 (dirC 5 la 1 lc (some ⟨rb, ro, none⟩) 1 rc).toArray (by rfl) (by rfl) hP.out.there hP.out.info (by simpa using hP.out.one) ?_
       generalize hWq : World.setCells _ _ _ _ = Wa
       obtain rfl : v3 = Wa := by rw [← hWq]; exact hP.out.eq
       clear hWq)
    | (refine wpList_load_mid (by rfl) 46 (.tmp 58) (by rfl) rb ro (by rfl) rr _ hrr.out Tryd.underlying46 (by rfl) hri.out ?_)
    | (refine wpList_store_mid (by rfl) 46 (.tmp 8) (.tmp 59) (by rfl) v3.heap.size 0 rr.toArray (by rfl) (by rfl) hP8.out.there hP8.out.info (by simpa using hP8.out.one) ?_
       generalize hWq : World.setCells _ _ _ _ = Wa
       obtain rfl : v4 = Wa := by rw [← hWq]; exact hP8.out.eq
       have hst := below_grown ((Below.refl _ v3).alloc (Nat.le_refl _) _) hP8.out.grown (by simp) (Nat.le_refl _)
       have y0 := (hB6.out.below hst hB6.out.lt).at_ (i := 0) (x := .int .i64 5) rfl
       have y1 := (hB6.out.below hst hB6.out.lt).at_ (i := 1) (x := .slice la 1 lc) rfl
       have y2 := (hB6.out.below hst hB6.out.lt).at_ (i := 2) (x := .slice (some ⟨rb, ro, none⟩) 1 rc) rfl
       clear hWq))
  replace hB1 := Lib.hid (hB1.out.below hst hB1.out.lt)
  replace hB5 := Lib.hid (hB5.out.below hst hB5.out.lt)
  replace hD := Lib.hid (hD.out.below hst)
  replace hB6 := Lib.hid (hB6.out.below hst hB6.out.lt)
  replace hbw := Lib.hid (hbw.out.trans (hst.mono hbw.out.size))
  have hB8 := Lib.hid hP8.out.blk
  clear hP hP8 hst hrr hrx
  refine (prove_at (dev := 3) (by decide) (HT'.out.below hbw.out) hD.out.gs).mono ?_
  rintro e w4 ⟨pa, pc, rfl, hS30, hst⟩
  replace hB1 := Lib.hid (hB1.out.below hst hB1.out.lt)
  replace hB5 := Lib.hid (hB5.out.below hst hB5.out.lt)
  replace hD := Lib.hid (hD.out.below hst)
  replace hB6 := Lib.hid (hB6.out.below hst hB6.out.lt)
  replace hB8 := Lib.hid (hB8.out.below hst hB8.out.lt)
  replace hbw := Lib.hid (hbw.out.trans (hst.mono hbw.out.size))
  have hS3 := Lib.hid hS30
  clear hst hS30 y0 y1 y2
  have y0 := hB6.out.at_ (i := 0) (x := .int .i64 5) rfl
  have y1 := hB6.out.at_ (i := 1) (x := .slice la 1 lc) rfl
  have y2 := hB6.out.at_ (i := 2) (x := .slice (some ⟨rb, ro, none⟩) 1 rc) rfl
  go_wp2_with fail
  refine (prove_at (dev := 4) (by decide) (HT'.out.below hbw.out) hD.out.gs).mono ?_
  rintro e w5 ⟨qa, qc, rfl, hS40, hst⟩
  replace hB1 := Lib.hid (hB1.out.below hst hB1.out.lt)
  replace hB5 := Lib.hid (hB5.out.below hst hB5.out.lt)
  replace hD := Lib.hid (hD.out.below hst)
  replace hB6 := Lib.hid (hB6.out.below hst hB6.out.lt)
  replace hB8 := Lib.hid (hB8.out.below hst hB8.out.lt)
  replace hS3 := Lib.hid (hS3.out.below hst)
  replace hbw := Lib.hid (hbw.out.trans (hst.mono hbw.out.size))
  have hS4 := Lib.hid hS40
  clear hst hS40 y0 y1 y2
  have y0 := hB6.out.at_ (i := 0) (x := .int .i64 5) rfl
  have y1 := hB6.out.at_ (i := 1) (x := .slice la 1 lc) rfl
  have y2 := hB6.out.at_ (i := 2) (x := .slice (some ⟨rb, ro, none⟩) 1 rc) rfl
  go_wp2_with fail
  refine (new_no (k := 0) (by decide) _).mono ?_
  rintro e w6 ⟨rfl, hst⟩
  replace hB1 := Lib.hid (hB1.out.below hst hB1.out.lt)
  replace hB5 := Lib.hid (hB5.out.below hst hB5.out.lt)
  replace hD := Lib.hid (hD.out.below hst)
  replace hB6 := Lib.hid (hB6.out.below hst hB6.out.lt)
  replace hB8 := Lib.hid (hB8.out.below hst hB8.out.lt)
  replace hS3 := Lib.hid (hS3.out.below hst)
  replace hS4 := Lib.hid (hS4.out.below hst)
  replace hbw := Lib.hid (hbw.out.trans (hst.mono hbw.out.size))
  clear hst y0 y1 y2
  obtain ⟨v6, hP⟩ : ∃ V, Hid (PutR 36 (w6.alloc (.cells (dirC 0 none 0 0 none 0 0 : List Value).toArray 36)) V w6.heap.size 36 (zdV)) := put_row (Blk.new w6 36 (dirC 0 none 0 0 none 0 0)) rfl (sizeDr) (dr_one _ _ _ _ _ _ _)
  have hst := below_grown ((Below.refl _ w6).alloc (Nat.le_refl _) _) hP.out.grown (by simp) (Nat.le_refl _)
  replace hB1 := Lib.hid (hB1.out.below hst hB1.out.lt)
  replace hB5 := Lib.hid (hB5.out.below hst hB5.out.lt)
  replace hD := Lib.hid (hD.out.below hst)
  replace hB6 := Lib.hid (hB6.out.below hst hB6.out.lt)
  replace hB8 := Lib.hid (hB8.out.below hst hB8.out.lt)
  replace hS3 := Lib.hid (hS3.out.below hst)
  replace hS4 := Lib.hid (hS4.out.below hst)
  replace hbw := Lib.hid (hbw.out.trans (hst.mono hbw.out.size))
  clear hst
  have hB13 := Lib.hid hP.out.blk
  go_wp2_with (first
    | (refine wpList_store_mid (by rfl) 36 (.tmp 13) (.tmp 74) (by rfl) w6.heap.size 0 (zdV).toArray (by rfl) (by rfl) hP.out.there hP.out.info (by simpa using hP.out.one) ?_
       generalize hWq : World.setCells _ _ _ _ = Wa
       obtain rfl : v6 = Wa := by rw [← hWq]; exact hP.out.eq
       clear hWq))
  clear hP
  refine (prove_no (l := []) (dev := 512) ⟨by decide, by decide⟩ (by decide) (HT'.out.below hbw.out) (RS.nil0 _ _ _)).mono ?_
  rintro e w7 ⟨rfl, hst⟩
  replace hB1 := Lib.hid (hB1.out.below hst hB1.out.lt)
  replace hB5 := Lib.hid (hB5.out.below hst hB5.out.lt)
  replace hD := Lib.hid (hD.out.below hst)
  replace hB6 := Lib.hid (hB6.out.below hst hB6.out.lt)
  replace hB8 := Lib.hid (hB8.out.below hst hB8.out.lt)
  replace hS3 := Lib.hid (hS3.out.below hst)
  replace hS4 := Lib.hid (hS4.out.below hst)
  replace hB13 := Lib.hid (hB13.out.below hst hB13.out.lt)
  replace hbw := Lib.hid (hbw.out.trans (hst.mono hbw.out.size))
  clear hst
  have b0 := hB1.out.at_ (i := 0) (x := .int .i64 5) rfl
  have b1 := hB1.out.at_ (i := 1) (x := .slice none 0 0) rfl
  have b2 := hB1.out.at_ (i := 2) (x := .slice none 0 0) rfl
  go_wp2_with fail
  clear b0 b1 b2
  refine (set_no hDx'.out.set0 (by decide) okL_zero (HT'.out.below hbw.out) (dm_new 5 ⟨by decide, by decide⟩ _)).mono ?_
  rintro e w8 ⟨rfl, hst⟩
  replace hB1 := Lib.hid (hB1.out.below hst hB1.out.lt)
  replace hB5 := Lib.hid (hB5.out.below hst hB5.out.lt)
  replace hD := Lib.hid (hD.out.below hst)
  replace hB6 := Lib.hid (hB6.out.below hst hB6.out.lt)
  replace hB8 := Lib.hid (hB8.out.below hst hB8.out.lt)
  replace hS3 := Lib.hid (hS3.out.below hst)
  replace hS4 := Lib.hid (hS4.out.below hst)
  replace hB13 := Lib.hid (hB13.out.below hst hB13.out.lt)
  replace hbw := Lib.hid (hbw.out.trans (hst.mono hbw.out.size))
  clear hst
  obtain ⟨v8, hP⟩ : ∃ V, Hid (PutR 36 (w8.alloc (.cells (dirC 0 none 0 0 none 0 0 : List Value).toArray 36)) V w8.heap.size 36 (zdV)) := put_row (Blk.new w8 36 (dirC 0 none 0 0 none 0 0)) rfl (sizeDr) (dr_one _ _ _ _ _ _ _)
  have hst := below_grown ((Below.refl _ w8).alloc (Nat.le_refl _) _) hP.out.grown (by simp) (Nat.le_refl _)
  replace hB1 := Lib.hid (hB1.out.below hst hB1.out.lt)
  replace hB5 := Lib.hid (hB5.out.below hst hB5.out.lt)
  replace hD := Lib.hid (hD.out.below hst)
  replace hB6 := Lib.hid (hB6.out.below hst hB6.out.lt)
  replace hB8 := Lib.hid (hB8.out.below hst hB8.out.lt)
  replace hS3 := Lib.hid (hS3.out.below hst)
  replace hS4 := Lib.hid (hS4.out.below hst)
  replace hB13 := Lib.hid (hB13.out.below hst hB13.out.lt)
  replace hbw := Lib.hid (hbw.out.trans (hst.mono hbw.out.size))
  clear hst
  have hB17 := Lib.hid hP.out.blk
  have y0 := hB6.out.at_ (i := 0) (x := .int .i64 5) rfl
  have y1 := hB6.out.at_ (i := 1) (x := .slice la 1 lc) rfl
  have y2 := hB6.out.at_ (i := 2) (x := .slice (some ⟨rb, ro, none⟩) 1 rc) rfl
  have hsz := Lib.hid (fun W hT => signed_any pq hpb.out Go.Dr.zeroR okZ W hT)
  rw [hDx'.out.sg0] at hsz
  have hsr := Lib.hid (fun W hT => signed_any pq hpb.out r hrk'.out W hT)
  rw [hDx'.out.sg, hre.out] at hsr
  have hr8 := Lib.hid hB8.out.range
  have hck := Lib.hid (fun W hG => dcheck_any (fun _ => True) la 1 lc [exL] W hG)
  rw [if_pos Go.Dr.ex_chk] at hck
  have hz55 : (rC Go.Dr.zeroR).toArray = Tryd.zeroCells46 := rfl
  rw [hz55] at hsz
  clear hz55
  go_wp2_with (first
    | (refine wpList_store_mid (by rfl) 36 (.tmp 17) (.tmp 84) (by rfl) w8.heap.size 0 (zdV).toArray (by rfl) (by rfl) hP.out.there hP.out.info (by simpa using hP.out.one) ?_
       generalize hWq : World.setCells _ _ _ _ = Wa
       obtain rfl : v8 = Wa := by rw [← hWq]; exact hP.out.eq
       clear hWq))
  clear hP y0 y1 y2
  refine (hsz.out _ (HT'.out.below hbw.out)).mono ?_
  rintro e w9 ⟨rfl, hst⟩
  replace hB1 := Lib.hid (hB1.out.below hst hB1.out.lt)
  replace hB5 := Lib.hid (hB5.out.below hst hB5.out.lt)
  replace hD := Lib.hid (hD.out.below hst)
  replace hB6 := Lib.hid (hB6.out.below hst hB6.out.lt)
  replace hB8 := Lib.hid (hB8.out.below hst hB8.out.lt)
  replace hS3 := Lib.hid (hS3.out.below hst)
  replace hS4 := Lib.hid (hS4.out.below hst)
  replace hB13 := Lib.hid (hB13.out.below hst hB13.out.lt)
  replace hB17 := Lib.hid (hB17.out.below hst hB17.out.lt)
  replace hbw := Lib.hid (hbw.out.trans (hst.mono hbw.out.size))
  clear hst
  have hr9 := Lib.hid hB8.out.range
  go_wp2_with (first
    | (refine wpList_load_gd (by rfl) 46 (.tmp 8) (by rfl) v3.heap.size 0 (by rfl) rr _ hr9.out Tryd.underlying46 (by rfl) hri.out ?_))
  refine (hsr.out _ (HT'.out.below hbw.out)).mono ?_
  rintro e w10 ⟨rfl, hst⟩
  replace hB1 := Lib.hid (hB1.out.below hst hB1.out.lt)
  replace hB5 := Lib.hid (hB5.out.below hst hB5.out.lt)
  replace hD := Lib.hid (hD.out.below hst)
  replace hB6 := Lib.hid (hB6.out.below hst hB6.out.lt)
  replace hB8 := Lib.hid (hB8.out.below hst hB8.out.lt)
  replace hS3 := Lib.hid (hS3.out.below hst)
  replace hS4 := Lib.hid (hS4.out.below hst)
  replace hB13 := Lib.hid (hB13.out.below hst hB13.out.lt)
  replace hB17 := Lib.hid (hB17.out.below hst hB17.out.lt)
  replace hbw := Lib.hid (hbw.out.trans (hst.mono hbw.out.size))
  clear hst
  have y0 := hB6.out.at_ (i := 0) (x := .int .i64 5) rfl
  have y1 := hB6.out.at_ (i := 1) (x := .slice la 1 lc) rfl
  have y2 := hB6.out.at_ (i := 2) (x := .slice (some ⟨rb, ro, none⟩) 1 rc) rfl
  go_wp2_with fail
  clear y0 y1 y2
  refine (hck.out _ hD.out.gs).mono ?_
  rintro e w11 ⟨rfl, hst⟩
  replace hB1 := Lib.hid (hB1.out.below hst hB1.out.lt)
  replace hB5 := Lib.hid (hB5.out.below hst hB5.out.lt)
  replace hD := Lib.hid (hD.out.below hst)
  replace hB6 := Lib.hid (hB6.out.below hst hB6.out.lt)
  replace hB8 := Lib.hid (hB8.out.below hst hB8.out.lt)
  replace hS3 := Lib.hid (hS3.out.below hst)
  replace hS4 := Lib.hid (hS4.out.below hst)
  replace hB13 := Lib.hid (hB13.out.below hst hB13.out.lt)
  replace hB17 := Lib.hid (hB17.out.below hst hB17.out.lt)
  replace hbw := Lib.hid (hbw.out.trans (hst.mono hbw.out.size))
  clear hst
  obtain ⟨D0, hD0⟩ : ∃ D, Hid (Go.Dr.rootD [exL] = D) := ⟨_, rfl⟩
  have hDd : Hid (Dig D0) := by rw [← hD0.out]; exact ⟨Go.Dr.nodeD_length [exL] 9 1, Go.Dr.nodeD_lt [exL] 9 1⟩
  have hp3 : Hid (Go.Dr.verP D0 exL false (Go.Dr.pathD [exL] 3) = true) := by rw [← hD0.out]; exact Go.Dr.ex_path
  have hp4 : Hid (Go.Dr.verP D0 ⟨4, 0, 0, 0, false⟩ true (Go.Dr.pathD [exL] 4) = true) := by rw [← hD0.out]; exact Go.Dr.ex_other
  have hk8 : Hid (rr[0]? = some (.int .i64 1)) := by show _ = _; rw [← hre.out, ← hDx'.out.no]; rfl
  have hd8 : Hid (∀ (j : Nat) (u : Value), (bv D0)[j]? = some u → rr[1 + j]? = some u) := fun j u h => by rw [← hre.out]; exact rC_dig (by rw [hDx'.out.dig, hD0.out]; exact h)
  have hv8 : Hid (∀ (j : Nat) (u : Value), (bv Go.Dr.zd)[j]? = some u → rr[33 + j]? = some u) := fun j u h => by rw [← hre.out]; exact rC_prev hrk'.out.dig (by rw [hDx'.out.prev]; exact h)
  have hdg := Lib.hid (fun W hT hG => digestL_any (fun _ => True) la 1 lc [exL] W hT hG)
  rw [hD0.out] at hdg
  have hzd : Dig Go.Dr.zd := ⟨by simp [Go.Dr.zd], by simp [Go.Dr.zd]⟩
  have heq1 : ∀ W, (Op.equalIn 10000 23 (.agg (bv Go.Dr.zd).toArray) (.agg #[.int .u8 0, .int .u8 0, .int .u8 0, .int .u8 0, .int .u8 0, .int .u8 0, .int .u8 0, .int .u8 0, .int .u8 0, .int .u8 0, .int .u8 0, .int .u8 0, .int .u8 0, .int .u8 0, .int .u8 0, .int .u8 0, .int .u8 0, .int .u8 0, .int .u8 0, .int .u8 0, .int .u8 0, .int .u8 0, .int .u8 0, .int .u8 0, .int .u8 0, .int .u8 0, .int .u8 0, .int .u8 0, .int .u8 0, .int .u8 0, .int .u8 0, .int .u8 0])).run Tryd.prog W = .ok true W := fun W => by
    have h := eq_dig hzd hzd W
    rw [decide_eq_true rfl] at h
    exact h
  have heq2 : ∀ W, (Op.equalIn 10000 23 (.agg (bv D0).toArray) (.agg (bv D0).toArray)).run Tryd.prog W = .ok true W := fun W => by rw [eq_dig hDd.out hDd.out W, decide_eq_true rfl]
  have zi0 : Hid ((Tryd.prog.info? 23).map (·.size) = some (bv Go.Dr.zd).length) := by show _ = _; rw [bv_length, hzd.1]; exact size35
  have zi1 : Hid ((Tryd.prog.info? 23).map (·.size) = some (bv D0).length) := by show _ = _; rw [bv_length, hDd.out.1]; exact size35
  have hv1 := Lib.hid (fun W hT hS => verify_any D0 hDd.out exL okL_ex false (Go.Dr.pathD [exL] 3) pa 9 pc W hT hS)
  have hv2 := Lib.hid (fun W hT hS => verify_any D0 hDd.out ⟨4, 0, 0, 0, false⟩ ⟨⟨by decide, by decide⟩, i64_0, i64_0, i64_0⟩ true (Go.Dr.pathD [exL] 4) qa 9 qc W hT hS)
  rw [hp3.out] at hv1
  rw [hp4.out] at hv2
  clear hp3 hp4 hD0 hzd hsz hsr hck hr9 hri hre hDx' hpb
  go_upto_region 15 with fail
  refine wp_region_held_drew (S := fun wz => Below w11.heap.size w11 wz) (by kernel_rfl) ((Below.refl _ w11).drew) (fun hHeld => ?_)
  have hB8' : Blk w11 v3.heap.size 46 rr := hB8.out
  have hB5' : Blk w11 w2.heap.size 25 (gC exL) := hB5.out
  have hB6' : Blk w11 w3.heap.size 36 (dirC 5 la 1 lc (some ⟨rb, ro, none⟩) 1 rc) := hB6.out
  have n5 := hB5'.lt
  have n6 := hB6'.lt
  have n8 := hB8'.lt
  generalize hW0 : w11.drew = W0 at *
  clear hW0
  refine wpAnyH_take (i := 0) (oi := { dst := some 121, op := Op.fieldAddr 46 (Operand.tmp 8) 0, type := 0, pos := "law.go:32", after := #[], guard := none }) (v := ?_) rfl (by kernel_rfl) (by kernel_rfl) (by kernel_rfl) (fun _ _ _ h => h) (Or.inl ⟨by rfl, ?_⟩) hHeld ?_
  rotate_left
  · intro wz hSw
    go_simp
    all_goals (with_reducible rfl)
  try simp only [Act.put, List.setIfInBounds_toArray, List.set_cons_zero, List.set_cons_succ]
  refine wpAnyH_take (i := 1) (oi := { dst := some 122, op := Op.load 3 (Operand.tmp 121), type := 3, pos := "law.go:32", after := #[{ on := 0, ground := Ground.data }], guard := none }) (v := ?_) rfl (by kernel_rfl) (by kernel_rfl) (by kernel_rfl) (fun _ _ _ h => h) (Or.inl ⟨by rfl, ?_⟩) hHeld ?_
  rotate_left
  · intro wz hSw
    have q0 := (hB8'.below hSw n8).at_ hk8.out
    go_simp
    all_goals (with_reducible rfl)
  try simp only [Act.put, List.setIfInBounds_toArray, List.set_cons_zero, List.set_cons_succ]
  refine wpAnyH_take (i := 2) (oi := { dst := some 123, op := Op.binOp BinOp.eql 3 (Operand.tmp 122) (Operand.const (Value.int IntKind.i64 1)) 3, type := 4, pos := "law.go:32", after := #[{ on := 1, ground := Ground.data }], guard := none }) (v := ?_) rfl (by kernel_rfl) (by kernel_rfl) (by kernel_rfl) (fun _ _ _ h => h) (Or.inl ⟨by rfl, ?_⟩) hHeld ?_
  rotate_left
  · intro wz hSw
    go_simp
    all_goals (with_reducible rfl)
  try simp only [Act.put, List.setIfInBounds_toArray, List.set_cons_zero, List.set_cons_succ]
  refine wpAnyH_take (i := 3) (oi := { dst := some 124, op := Op.move (Operand.tmp 123), type := 4, pos := "law.go:32", after := #[{ on := 2, ground := Ground.data }], guard := none }) (v := ?_) rfl (by kernel_rfl) (by kernel_rfl) (by kernel_rfl) (fun _ _ _ h => h) (Or.inl ⟨by rfl, ?_⟩) hHeld ?_
  rotate_left
  · intro wz hSw
    go_simp
    all_goals (with_reducible rfl)
  try simp only [Act.put, List.setIfInBounds_toArray, List.set_cons_zero, List.set_cons_succ]
  refine wpAnyH_take (i := 4) (oi := { dst := some 125, op := Op.fieldAddr 46 (Operand.tmp 8) 2, type := 0, pos := "law.go:32", after := #[{ on := 3, ground := Ground.guard }], guard := some (3, true) }) (v := ?_) rfl (by kernel_rfl) (by kernel_rfl) (by kernel_rfl) (fun _ _ _ h => h) (Or.inl ⟨by rfl, ?_⟩) hHeld ?_
  rotate_left
  · intro wz hSw
    go_simp
    all_goals (with_reducible rfl)
  try simp only [Act.put, List.setIfInBounds_toArray, List.set_cons_zero, List.set_cons_succ]
  refine wpAnyH_take (i := 5) (oi := { dst := some 126, op := Op.load 23 (Operand.tmp 125), type := 23, pos := "law.go:32", after := #[{ on := 4, ground := Ground.data }, { on := 3, ground := Ground.guard }], guard := some (3, true) }) rfl (by kernel_rfl) (by kernel_rfl) (by kernel_rfl) (fun _ _ _ h => h) (yieldsIf_load_mid (by rfl) _ _ rfl v3.heap.size 33 rfl (bv Go.Dr.zd) _ (fun wz h => fun j u hj => (hB8'.below h n8).at_ (hv8.out j u hj)) Tryd.underlying23 rfl (zi0.out)) hHeld ?_
  try simp only [Act.put, List.setIfInBounds_toArray, List.set_cons_zero, List.set_cons_succ]
  refine wpAnyH_take (i := 6) (oi := { dst := some 127, op := Op.build 23 #[], type := 23, pos := "law.go:32", after := #[{ on := 3, ground := Ground.guard }], guard := some (3, true) }) (v := ?_) rfl (by kernel_rfl) (by kernel_rfl) (by kernel_rfl) (fun _ _ _ h => h) (Or.inl ⟨by rfl, ?_⟩) hHeld ?_
  rotate_left
  · intro wz hSw
    go_simp
    all_goals (with_reducible rfl)
  try simp only [Act.put, List.setIfInBounds_toArray, List.set_cons_zero, List.set_cons_succ]
  refine wpAnyH_take (i := 7) (oi := { dst := some 128, op := Op.binOp BinOp.eql 23 (Operand.tmp 126) (Operand.tmp 127) 23, type := 4, pos := "law.go:32", after := #[{ on := 5, ground := Ground.data }, { on := 6, ground := Ground.data }, { on := 3, ground := Ground.guard }], guard := some (3, true) }) (v := ?_) rfl (by kernel_rfl) (by kernel_rfl) (by kernel_rfl) (fun _ _ _ h => h) (Or.inl ⟨by rfl, ?_⟩) hHeld ?_
  rotate_left
  · intro wz hSw
    go_simp
    all_goals (with_reducible rfl)
  try simp only [Act.put, List.setIfInBounds_toArray, List.set_cons_zero, List.set_cons_succ]
  refine wpAnyH_take (i := 8) (oi := { dst := some 129, op := Op.pick (Operand.tmp 124) (Operand.tmp 128) (Operand.const (Value.bool false)), type := 4, pos := "law.go:32", after := #[{ on := 3, ground := Ground.data }, { on := 7, ground := Ground.data }], guard := none }) (v := ?_) rfl (by kernel_rfl) (by kernel_rfl) (by kernel_rfl) (fun _ _ _ h => h) (Or.inl ⟨by rfl, ?_⟩) hHeld ?_
  rotate_left
  · intro wz hSw
    go_simp
    all_goals (with_reducible rfl)
  try simp only [Act.put, List.setIfInBounds_toArray, List.set_cons_zero, List.set_cons_succ]
  refine wpAnyH_take (i := 9) (oi := { dst := some 130, op := Op.move (Operand.tmp 129), type := 4, pos := "law.go:32", after := #[{ on := 8, ground := Ground.data }, { on := 3, ground := Ground.chain }], guard := none }) (v := ?_) rfl (by kernel_rfl) (by kernel_rfl) (by kernel_rfl) (fun _ _ _ h => h) (Or.inl ⟨by rfl, ?_⟩) hHeld ?_
  rotate_left
  · intro wz hSw
    go_simp
    all_goals (with_reducible rfl)
  try simp only [Act.put, List.setIfInBounds_toArray, List.set_cons_zero, List.set_cons_succ]
  refine wpAnyH_take (i := 10) (oi := { dst := some 131, op := Op.fieldAddr 46 (Operand.tmp 8) 1, type := 0, pos := "law.go:32", after := #[{ on := 9, ground := Ground.guard }], guard := some (9, true) }) (v := ?_) rfl (by kernel_rfl) (by kernel_rfl) (by kernel_rfl) (fun _ _ _ h => h) (Or.inl ⟨by rfl, ?_⟩) hHeld ?_
  rotate_left
  · intro wz hSw
    go_simp
    all_goals (with_reducible rfl)
  try simp only [Act.put, List.setIfInBounds_toArray, List.set_cons_zero, List.set_cons_succ]
  refine wpAnyH_take (i := 11) (oi := { dst := some 132, op := Op.load 23 (Operand.tmp 131), type := 23, pos := "law.go:32", after := #[{ on := 10, ground := Ground.data }, { on := 9, ground := Ground.guard }], guard := some (9, true) }) rfl (by kernel_rfl) (by kernel_rfl) (by kernel_rfl) (fun _ _ _ h => h) (yieldsIf_load_mid (by rfl) _ _ rfl v3.heap.size 1 rfl (bv D0) _ (fun wz h => fun j u hj => (hB8'.below h n8).at_ (hd8.out j u hj)) Tryd.underlying23 rfl (zi1.out)) hHeld ?_
  try simp only [Act.put, List.setIfInBounds_toArray, List.set_cons_zero, List.set_cons_succ]
  refine wpAnyH_take (i := 12) (oi := { dst := some 133, op := Op.fieldAddr 36 (Operand.tmp 6) 1, type := 0, pos := "law.go:32", after := #[{ on := 9, ground := Ground.guard }], guard := some (9, true) }) (v := ?_) rfl (by kernel_rfl) (by kernel_rfl) (by kernel_rfl) (fun _ _ _ h => h) (Or.inl ⟨by rfl, ?_⟩) hHeld ?_
  rotate_left
  · intro wz hSw
    go_simp
    all_goals (with_reducible rfl)
  try simp only [Act.put, List.setIfInBounds_toArray, List.set_cons_zero, List.set_cons_succ]
  refine wpAnyH_take (i := 13) (oi := { dst := some 134, op := Op.load 33 (Operand.tmp 133), type := 33, pos := "law.go:32", after := #[{ on := 12, ground := Ground.data }, { on := 9, ground := Ground.guard }], guard := some (9, true) }) (v := ?_) rfl (by kernel_rfl) (by kernel_rfl) (by kernel_rfl) (fun _ _ _ h => h) (Or.inl ⟨by rfl, ?_⟩) hHeld ?_
  rotate_left
  · intro wz hSw
    have q1 := (hB6'.below hSw n6).at_ (i := 1) (x := .slice la 1 lc) rfl
    go_simp
    all_goals (with_reducible rfl)
  try simp only [Act.put, List.setIfInBounds_toArray, List.set_cons_zero, List.set_cons_succ]
  refine wpAnyH_ready (rs := [14]) (by kernel_rfl) (by simp) ?_
  refine AllReadyH.cons (o := { dst := some 135, op := Op.call { callee := Callee.value (Operand.func 13), args := #[Operand.tmp 134], argTypes := #[33] }, type := 23, pos := "law.go:32", after := #[{ on := 13, ground := Ground.data }, { on := 9, ground := Ground.chain }, { on := 9, ground := Ground.guard }], guard := some (9, true) }) rfl (fun K hK => ?_) AllReadyH.nil
  rw [if_pos (by rfl)]
  show Oper.wp _ _ _ _ K _
  go_simp
  go_at_call 13
  refine (hdg.out _ (HT'.out.below (hbw.out.trans (hHeld.mono hbw.out.size))) (hD.out.gs.below hHeld)).mono ?_
  rintro e W1 ⟨rfl, hst⟩
  refine hK.out _ _ (hHeld.trans (hst.mono hHeld.size)) (fun hHeld2 => ?_)
  clear hHeld hst
  have hHeld := hHeld2
  clear hHeld2
  clear hK K
  try simp only [Act.put, List.setIfInBounds_toArray, List.set_cons_zero, List.set_cons_succ]
  refine wpAnyH_take (i := 15) (oi := { dst := some 136, op := Op.binOp BinOp.eql 23 (Operand.tmp 132) (Operand.tmp 135) 23, type := 4, pos := "law.go:32", after := #[{ on := 11, ground := Ground.data }, { on := 14, ground := Ground.data }, { on := 9, ground := Ground.guard }], guard := some (9, true) }) (v := ?_) rfl (by kernel_rfl) (by kernel_rfl) (by kernel_rfl) (fun _ _ _ h => h) (Or.inl ⟨by rfl, ?_⟩) hHeld ?_
  rotate_left
  · intro wz hSw
    go_simp
    all_goals (with_reducible rfl)
  try simp only [Act.put, List.setIfInBounds_toArray, List.set_cons_zero, List.set_cons_succ]
  refine wpAnyH_take (i := 16) (oi := { dst := some 137, op := Op.pick (Operand.tmp 130) (Operand.tmp 136) (Operand.const (Value.bool false)), type := 4, pos := "law.go:32", after := #[{ on := 9, ground := Ground.data }, { on := 15, ground := Ground.data }], guard := none }) (v := ?_) rfl (by kernel_rfl) (by kernel_rfl) (by kernel_rfl) (fun _ _ _ h => h) (Or.inl ⟨by rfl, ?_⟩) hHeld ?_
  rotate_left
  · intro wz hSw
    go_simp
    all_goals (with_reducible rfl)
  try simp only [Act.put, List.setIfInBounds_toArray, List.set_cons_zero, List.set_cons_succ]
  refine wpAnyH_take (i := 17) (oi := { dst := some 138, op := Op.move (Operand.tmp 137), type := 4, pos := "law.go:32", after := #[{ on := 16, ground := Ground.data }, { on := 14, ground := Ground.chain }], guard := none }) (v := ?_) rfl (by kernel_rfl) (by kernel_rfl) (by kernel_rfl) (fun _ _ _ h => h) (Or.inl ⟨by rfl, ?_⟩) hHeld ?_
  rotate_left
  · intro wz hSw
    go_simp
    all_goals (with_reducible rfl)
  try simp only [Act.put, List.setIfInBounds_toArray, List.set_cons_zero, List.set_cons_succ]
  refine wpAnyH_take (i := 18) (oi := { dst := some 139, op := Op.fieldAddr 46 (Operand.tmp 8) 1, type := 0, pos := "law.go:32", after := #[{ on := 17, ground := Ground.guard }], guard := some (17, true) }) (v := ?_) rfl (by kernel_rfl) (by kernel_rfl) (by kernel_rfl) (fun _ _ _ h => h) (Or.inl ⟨by rfl, ?_⟩) hHeld ?_
  rotate_left
  · intro wz hSw
    go_simp
    all_goals (with_reducible rfl)
  try simp only [Act.put, List.setIfInBounds_toArray, List.set_cons_zero, List.set_cons_succ]
  refine wpAnyH_take (i := 19) (oi := { dst := some 140, op := Op.load 23 (Operand.tmp 139), type := 23, pos := "law.go:32", after := #[{ on := 18, ground := Ground.data }, { on := 17, ground := Ground.guard }], guard := some (17, true) }) rfl (by kernel_rfl) (by kernel_rfl) (by kernel_rfl) (fun _ _ _ h => h) (yieldsIf_load_mid (by rfl) _ _ rfl v3.heap.size 1 rfl (bv D0) _ (fun wz h => fun j u hj => (hB8'.below h n8).at_ (hd8.out j u hj)) Tryd.underlying23 rfl (zi1.out)) hHeld ?_
  try simp only [Act.put, List.setIfInBounds_toArray, List.set_cons_zero, List.set_cons_succ]
  refine wpAnyH_take (i := 20) (oi := { dst := some 141, op := Op.load 25 (Operand.tmp 5), type := 25, pos := "law.go:32", after := #[{ on := 17, ground := Ground.guard }], guard := some (17, true) }) (v := ?_) rfl (by kernel_rfl) (by kernel_rfl) (by kernel_rfl) (fun _ _ _ h => h) (Or.inl ⟨by rfl, ?_⟩) hHeld ?_
  rotate_left
  · intro wz hSw
    have q0 := (hB5'.below hSw n5).at_ (i := 0) (x := .int .i64 3) rfl
    have q1 := (hB5'.below hSw n5).at_ (i := 1) (x := .int .i64 4) rfl
    have q2 := (hB5'.below hSw n5).at_ (i := 2) (x := .int .i64 16) rfl
    have q3 := (hB5'.below hSw n5).at_ (i := 3) (x := .int .i64 1) rfl
    have q4 := (hB5'.below hSw n5).at_ (i := 4) (x := .bool false) rfl
    go_simp
    all_goals (with_reducible rfl)
  try simp only [Act.put, List.setIfInBounds_toArray, List.set_cons_zero, List.set_cons_succ]
  refine wpAnyH_take (i := 21) (oi := { dst := some 142, op := Op.move (Operand.tmp 9), type := 26, pos := "law.go:32", after := #[{ on := 17, ground := Ground.guard }], guard := some (17, true) }) (v := ?_) rfl (by kernel_rfl) (by kernel_rfl) (by kernel_rfl) (fun _ _ _ h => h) (Or.inl ⟨by rfl, ?_⟩) hHeld ?_
  rotate_left
  · intro wz hSw
    go_simp
    all_goals (with_reducible rfl)
  try simp only [Act.put, List.setIfInBounds_toArray, List.set_cons_zero, List.set_cons_succ]
  refine wpAnyH_ready (rs := [22]) (by kernel_rfl) (by simp) ?_
  refine AllReadyH.cons (o := { dst := some 143, op := Op.call { callee := Callee.value (Operand.func 5), args := #[Operand.tmp 140, Operand.tmp 141, Operand.const (Value.bool false), Operand.tmp 142], argTypes := #[23, 25, 4, 26] }, type := 4, pos := "law.go:32", after := #[{ on := 19, ground := Ground.data }, { on := 20, ground := Ground.data }, { on := 21, ground := Ground.data }, { on := 17, ground := Ground.chain }, { on := 17, ground := Ground.guard }], guard := some (17, true) }) rfl (fun K hK => ?_) AllReadyH.nil
  rw [if_pos (by rfl)]
  show Oper.wp _ _ _ _ K _
  go_simp
  go_at_call 5
  refine (hv1.out _ (HT'.out.below (hbw.out.trans (hHeld.mono hbw.out.size))) (hS3.out.below hHeld)).mono ?_
  rintro e W2 ⟨rfl, hst⟩
  refine hK.out _ _ (hHeld.trans (hst.mono hHeld.size)) (fun hHeld2 => ?_)
  clear hHeld hst
  have hHeld := hHeld2
  clear hHeld2
  clear hK K
  try simp only [Act.put, List.setIfInBounds_toArray, List.set_cons_zero, List.set_cons_succ]
  refine wpAnyH_take (i := 23) (oi := { dst := some 144, op := Op.pick (Operand.tmp 138) (Operand.tmp 143) (Operand.const (Value.bool false)), type := 4, pos := "law.go:32", after := #[{ on := 17, ground := Ground.data }, { on := 22, ground := Ground.data }], guard := none }) (v := ?_) rfl (by kernel_rfl) (by kernel_rfl) (by kernel_rfl) (fun _ _ _ h => h) (Or.inl ⟨by rfl, ?_⟩) hHeld ?_
  rotate_left
  · intro wz hSw
    go_simp
    all_goals (with_reducible rfl)
  try simp only [Act.put, List.setIfInBounds_toArray, List.set_cons_zero, List.set_cons_succ]
  refine wpAnyH_take (i := 24) (oi := { dst := some 145, op := Op.move (Operand.tmp 144), type := 4, pos := "law.go:32", after := #[{ on := 23, ground := Ground.data }, { on := 22, ground := Ground.chain }], guard := none }) (v := ?_) rfl (by kernel_rfl) (by kernel_rfl) (by kernel_rfl) (fun _ _ _ h => h) (Or.inl ⟨by rfl, ?_⟩) hHeld ?_
  rotate_left
  · intro wz hSw
    go_simp
    all_goals (with_reducible rfl)
  try simp only [Act.put, List.setIfInBounds_toArray, List.set_cons_zero, List.set_cons_succ]
  refine wpAnyH_take (i := 25) (oi := { dst := some 146, op := Op.fieldAddr 46 (Operand.tmp 8) 1, type := 0, pos := "law.go:32", after := #[{ on := 24, ground := Ground.guard }], guard := some (24, true) }) (v := ?_) rfl (by kernel_rfl) (by kernel_rfl) (by kernel_rfl) (fun _ _ _ h => h) (Or.inl ⟨by rfl, ?_⟩) hHeld ?_
  rotate_left
  · intro wz hSw
    go_simp
    all_goals (with_reducible rfl)
  try simp only [Act.put, List.setIfInBounds_toArray, List.set_cons_zero, List.set_cons_succ]
  refine wpAnyH_take (i := 26) (oi := { dst := some 147, op := Op.load 23 (Operand.tmp 146), type := 23, pos := "law.go:32", after := #[{ on := 25, ground := Ground.data }, { on := 24, ground := Ground.guard }], guard := some (24, true) }) rfl (by kernel_rfl) (by kernel_rfl) (by kernel_rfl) (fun _ _ _ h => h) (yieldsIf_load_mid (by rfl) _ _ rfl v3.heap.size 1 rfl (bv D0) _ (fun wz h => fun j u hj => (hB8'.below h n8).at_ (hd8.out j u hj)) Tryd.underlying23 rfl (zi1.out)) hHeld ?_
  try simp only [Act.put, List.setIfInBounds_toArray, List.set_cons_zero, List.set_cons_succ]
  refine wpAnyH_take (i := 27) (oi := { dst := some 148, op := Op.build 25 #[(0, Operand.const (Value.int IntKind.i64 4))], type := 25, pos := "law.go:32", after := #[{ on := 24, ground := Ground.guard }], guard := some (24, true) }) (v := ?_) rfl (by kernel_rfl) (by kernel_rfl) (by kernel_rfl) (fun _ _ _ h => h) (Or.inl ⟨by rfl, ?_⟩) hHeld ?_
  rotate_left
  · intro wz hSw
    go_simp
    all_goals (with_reducible rfl)
  try simp only [Act.put, List.setIfInBounds_toArray, List.set_cons_zero, List.set_cons_succ]
  refine wpAnyH_take (i := 28) (oi := { dst := some 149, op := Op.move (Operand.tmp 11), type := 26, pos := "law.go:32", after := #[{ on := 24, ground := Ground.guard }], guard := some (24, true) }) (v := ?_) rfl (by kernel_rfl) (by kernel_rfl) (by kernel_rfl) (fun _ _ _ h => h) (Or.inl ⟨by rfl, ?_⟩) hHeld ?_
  rotate_left
  · intro wz hSw
    go_simp
    all_goals (with_reducible rfl)
  try simp only [Act.put, List.setIfInBounds_toArray, List.set_cons_zero, List.set_cons_succ]
  refine wpAnyH_ready (rs := [29]) (by kernel_rfl) (by simp) ?_
  refine AllReadyH.cons (o := { dst := some 150, op := Op.call { callee := Callee.value (Operand.func 5), args := #[Operand.tmp 147, Operand.tmp 148, Operand.const (Value.bool true), Operand.tmp 149], argTypes := #[23, 25, 4, 26] }, type := 4, pos := "law.go:32", after := #[{ on := 26, ground := Ground.data }, { on := 27, ground := Ground.data }, { on := 28, ground := Ground.data }, { on := 24, ground := Ground.chain }, { on := 24, ground := Ground.guard }], guard := some (24, true) }) rfl (fun K hK => ?_) AllReadyH.nil
  rw [if_pos (by rfl)]
  show Oper.wp _ _ _ _ K _
  go_simp
  go_at_call 5
  refine (hv2.out _ (HT'.out.below (hbw.out.trans (hHeld.mono hbw.out.size))) (hS4.out.below hHeld)).mono ?_
  rintro e W3 ⟨rfl, hst⟩
  refine hK.out _ _ (hHeld.trans (hst.mono hHeld.size)) (fun hHeld2 => ?_)
  clear hHeld hst
  have hHeld := hHeld2
  clear hHeld2
  clear hK K
  try simp only [Act.put, List.setIfInBounds_toArray, List.set_cons_zero, List.set_cons_succ]
  refine wpAnyH_take (i := 30) (oi := { dst := some 151, op := Op.pick (Operand.tmp 145) (Operand.tmp 150) (Operand.const (Value.bool false)), type := 4, pos := "law.go:32", after := #[{ on := 24, ground := Ground.data }, { on := 29, ground := Ground.data }], guard := none }) (v := ?_) rfl (by kernel_rfl) (by kernel_rfl) (by kernel_rfl) (fun _ _ _ h => h) (Or.inl ⟨by rfl, ?_⟩) hHeld ?_
  rotate_left
  · intro wz hSw
    go_simp
    all_goals (with_reducible rfl)
  try simp only [Act.put, List.setIfInBounds_toArray, List.set_cons_zero, List.set_cons_succ]
  refine wpAnyH_take (i := 31) (oi := { dst := some 0, op := Op.assign (Operand.tmp 151), type := 4, pos := "law.go:32", after := #[{ on := 30, ground := Ground.data }, { on := 29, ground := Ground.chain }, { on := 0, ground := Ground.phase }, { on := 1, ground := Ground.phase }, { on := 2, ground := Ground.phase }, { on := 3, ground := Ground.phase }, { on := 4, ground := Ground.phase }, { on := 5, ground := Ground.phase }, { on := 6, ground := Ground.phase }, { on := 7, ground := Ground.phase }, { on := 8, ground := Ground.phase }, { on := 9, ground := Ground.phase }, { on := 10, ground := Ground.phase }, { on := 11, ground := Ground.phase }, { on := 12, ground := Ground.phase }, { on := 13, ground := Ground.phase }, { on := 14, ground := Ground.phase }, { on := 15, ground := Ground.phase }, { on := 16, ground := Ground.phase }, { on := 17, ground := Ground.phase }, { on := 18, ground := Ground.phase }, { on := 19, ground := Ground.phase }, { on := 20, ground := Ground.phase }, { on := 21, ground := Ground.phase }, { on := 22, ground := Ground.phase }, { on := 23, ground := Ground.phase }, { on := 24, ground := Ground.phase }, { on := 25, ground := Ground.phase }, { on := 26, ground := Ground.phase }, { on := 27, ground := Ground.phase }, { on := 28, ground := Ground.phase }, { on := 29, ground := Ground.phase }, { on := 30, ground := Ground.phase }], guard := none }) (v := ?_) rfl (by kernel_rfl) (by kernel_rfl) (by kernel_rfl) (fun _ _ _ h => h) (Or.inl ⟨by rfl, ?_⟩) hHeld ?_
  rotate_left
  · intro wz hSw
    go_simp
    all_goals (with_reducible rfl)
  try simp only [Act.put, List.setIfInBounds_toArray, List.set_cons_zero]
  refine wpAnyH_done (by kernel_rfl) ?_ _
  have hend := hfin.out _ (hbw.out.trans (hHeld.mono hbw.out.size))
  go_wp2_with fail
  exact hend
end Go.Proofs.YthnfjkgiaanmhaaDoor
