/- the walk of ViewsRemember -/
import Derived.Test.YtiionehcmoginaaDoorSnq
import Derived.Test.YtiionehcmoginaaDoorVwE
import Derived.Test.YtiionehcmoginaaDoorCards
import Derived.Test.YtiionehcmoginaaDoorTie
import Derived.SevenTiedAt
import Derived.Deep.DeepHandedRow
import Derived.Deep.DeepWitnessRowRef
namespace Go.Vw
theorem any_step {α : Type} {l : List α} {k : Nat} {x : α} (f : α → Bool) (h : l[k]? = some x) : (l.drop k).any f = (f x || (l.drop (k + 1)).any f) := by
  have hk := (List.getElem?_eq_some_iff.1 h).1
  rw [List.drop_eq_getElem_cons hk, (List.getElem?_eq_some_iff.1 h).2, List.any_cons]
theorem any_end {α : Type} {l : List α} {k : Nat} (f : α → Bool) (h : l.length ≤ k) : (l.drop k).any f = false := by
  rw [List.drop_eq_nil_of_le h]; rfl
end Go.Vw
namespace Go.Proofs.YtiionehcmoginaaDoor
open Go.RowKit Go.Mem Go.Shelf
open Go.Sto (Ent)
open Go.Vw (Hd Fk zeroV zeroF accV eqH insH acc_ok acc_err)

theorem fewVd_iff {a b : Nat} (h : fewV a b = true) : a ≤ 14 ∧ b ≤ 8 := by
  unfold fewV at h
  rw [Bool.and_eq_true, decide_eq_true_iff, decide_eq_true_iff] at h
  exact h
theorem ESr.fewd {w : World} {a : Option Addr} {n c : Nat} {l : List Ent} (H : ESr w a n c l) (h : fewE32 l = true) : ES (fun _ => True) w a n c l := by
  unfold fewE32 few30 fewE at h
  rw [Bool.and_eq_true, Bool.and_eq_true, decide_eq_true_iff, decide_eq_true_iff, List.all_eq_true] at h
  refine H.es (by have := H.len; omega) fun e he => ?_
  have := of_decide_eq_true (h.2.1 e he)
  omega

set_option maxRecDepth 100000 in
set_option maxHeartbeats 20000000 in
theorem remember_walk (va : Vw.V) (da : Option Addr) (dn dc : Nat) (ha : Option Addr) (hn hc : Nat) (la : Option Addr) (ln lc : Nat) (es : List Ent) (h : Hd) (ok : OkH h) (w : World) (HT : Tabs w)
    (HA : VMr w va da dn dc ha hn hc) (HE : ESr w la ln lc es) :
    Calls Tryd.prog 6 #[.agg #[.int .i64 va.st, .int .i64 va.fo, .int .i64 va.pub, .slice da dn dc, .slice ha hn hc], .slice la ln lc, .agg (hdC h).toArray] w (RetBo true w) := by
  have HA' := Lib.hid HA; have HE' := Lib.hid HE; have HT' := Lib.hid HT
  clear HA HE HT
  have hsa := Lib.hid (fun W hT => sane32_any W hT)
  have hfa := Lib.hid (fun W => few32_any va.st va.fo va.pub da dn dc ha hn hc W)
  have hfe := Lib.hid (fun W H => fewE32_any la ln lc es W H)
  have hfa' : Hid (fewV dn hn = true → dn ≤ 14 ∧ hn ≤ 8) := fewVd_iff
  have hfe' : Hid (fewE32 es = true → ES (fun _ => True) w la ln lc es) := HE'.out.fewd
  obtain ⟨ba, eba⟩ : ∃ x, Hid (fewV dn hn = x) := ⟨_, rfl⟩
  obtain ⟨be, ebe⟩ : ∃ x, Hid (fewE32 es = x) := ⟨_, rfl⟩
  rw [eba.out] at hfa hfa'
  rw [ebe.out] at hfe hfe'
  clear eba ebe
  obtain ⟨tb, htb⟩ : ∃ tb, Hid (w.heap.size = tb) := ⟨_, rfl⟩
  obtain ⟨W1, hW1⟩ : ∃ W1, W1 = (w.alloc (.cells #[.int .i64 va.st, .int .i64 va.fo, .int .i64 va.pub, .slice da dn dc, .slice ha hn hc] 36)).alloc (.cells (hdC h).toArray 46) := ⟨_, rfl⟩
  have e1 : (w.alloc (.cells #[.int .i64 va.st, .int .i64 va.fo, .int .i64 va.pub, .slice da dn dc, .slice ha hn hc] 36)).heap.size = tb + 1 := by rw [World.size_alloc, htb.out]
  have hBa : Hid (Blk W1 tb 36 [.int .i64 va.st, .int .i64 va.fo, .int .i64 va.pub, .slice da dn dc, .slice ha hn hc]) := by rw [hW1, ← htb.out]; exact (Blk.new w _ _).alloc _
  have hBh : Hid (Blk W1 (tb + 1) 46 (hdC h)) := by rw [hW1, ← e1]; exact Blk.new _ _ _
  have hbw : Hid (Below w.heap.size w W1) := by rw [hW1]; exact ((Below.refl _ w).alloc (Nat.le_refl _) _).alloc (by simp) _
  clear e1
  have hri := infoHd ok
  have ok' := Lib.hid ok
  clear ok
  obtain ⟨X, hX⟩ : ∃ X, X = RetBo true w := ⟨_, rfl⟩
  have hfin : Hid (∀ W, Below w.heap.size w W → X (.returned (.bool true)) W) := fun W hb => by rw [hX]; exact ⟨rfl, hb⟩
  rw [← hX]
  clear hX
  go_enter Tryd.func6, Tryd.ntmps6
  go_upto_region 1 with fail
  rw [htb.out]
  generalize hWq : (w.alloc _).alloc _ = Wq
  obtain rfl : W1 = Wq := by rw [← hWq, hW1]
  clear hWq hW1
  go_wp2_with fail
  refine (hsa.out _ (HT'.out.below hbw.out)).mono ?_
  rintro e w2 ⟨rfl, hst⟩
  replace hBa := Lib.hid (hBa.out.below hst hBa.out.lt)
  replace hBh := Lib.hid (hBh.out.below hst hBh.out.lt)
  replace hbw := Lib.hid (hbw.out.trans (hst.mono hbw.out.size))
  clear hst hsa
  have a0 := hBa.out.at_ (i := 0) rfl
  have a1 := hBa.out.at_ (i := 1) rfl
  have a2 := hBa.out.at_ (i := 2) rfl
  have a3 := hBa.out.at_ (i := 3) rfl
  have a4 := hBa.out.at_ (i := 4) rfl
  go_wp2_with fail
  refine (hfa.out _).mono ?_
  rintro e w3 ⟨rfl, hst⟩
  replace hBa := Lib.hid (hBa.out.below hst hBa.out.lt)
  replace hBh := Lib.hid (hBh.out.below hst hBh.out.lt)
  replace hbw := Lib.hid (hbw.out.trans (hst.mono hbw.out.size))
  clear hst hfa a0 a1 a2 a3 a4
  cases ba with
  | false =>
    have hf := Lib.hid (hfin.out _ hbw.out)
    go_wp2_with fail
    exact hf.out
  | true =>
  go_wp2_with fail
  refine (hfe.out _ (HE'.out.below hbw.out)).mono ?_
  rintro e w5 ⟨rfl, hw5⟩
  subst hw5
  clear hfe
  cases be with
  | false =>
    have hf := Lib.hid (hfin.out _ hbw.out)
    go_wp2_with fail
    exact hf.out
  | true =>
  have hES := Lib.hid (hfe'.out (by trivial))
  have hVA := Lib.hid (HA'.out.vm (Nat.le_trans (hfa'.out (by trivial)).1 (by decide)) (Nat.le_trans (hfa'.out (by trivial)).2 (by decide)))
  have hn8 := Lib.hid (hfa'.out (by trivial)).2
  clear hfa' hfe' HA' HE'
  have hac := Lib.hid (fun W hT h1 h2 => accept_any va da dn dc ha hn hc la ln lc es h ok'.out W hT h1 h2 (by have := hn8.out; omega))
  have hae := Lib.hid (acc_err (v := va) (l := es) (h := h))
  have hao := Lib.hid (acc_ok (v := va) (l := es) (h := h))
  obtain ⟨A, eA⟩ : ∃ x, Hid (accV va es h = x) := ⟨_, rfl⟩
  rw [eA.out] at hac hae hao
  clear eA
  obtain ⟨x, f, e⟩ := A
  simp only [] at hac hae hao
  have hrg := Lib.hid hBh.out.range
  have a0 := hBa.out.at_ (i := 0) rfl
  have a1 := hBa.out.at_ (i := 1) rfl
  have a2 := hBa.out.at_ (i := 2) rfl
  have a3 := hBa.out.at_ (i := 3) rfl
  have a4 := hBa.out.at_ (i := 4) rfl
  go_wp2_with (first
    | (refine wpList_load_g (by rfl) 46 _ (by rfl) (tb + 1) 0 (by rfl) (hdC h) _ hrg.out Tryd.underlying46 (by rfl) hri.out ?_))
  refine (hac.out _ (HT'.out.below hbw.out) (hVA.out.below hbw.out) (hES.out.below hbw.out)).mono ?_
  rintro e2 w6 ⟨xa, xn, xc, ya, yn, yc, fa, fn, fc, rfl, hVM, okf, hdf, fn63, hst⟩
  clear hac hrg a0 a1 a2 a3 a4
  have okf' := Lib.hid okf
  simp only [] at hVM hdf
  clear okf fn63 hdf
  replace hBa := Lib.hid (hBa.out.below hst hBa.out.lt)
  replace hBh := Lib.hid (hBh.out.below hst hBh.out.lt)
  replace hbw := Lib.hid (hbw.out.trans (hst.mono hbw.out.size))
  clear hst
  have hMx := Lib.hid hVM
  clear hVM
  have al : Below w6.heap.size w6 ((w6.alloc (.cells (zrV : List Value).toArray 36)).alloc (.cells (zrF : List Value).toArray 48)) := ((Below.refl _ w6).alloc (Nat.le_refl _) _).alloc (by simp) _
  have bV0 := (Blk.new w6 36 zrV).alloc (.cells (zrF : List Value).toArray 48)
  have bF0 := Blk.new (w6.alloc (.cells (zrV : List Value).toArray 36)) 48 zrF
  rw [World.size_alloc] at bF0
  obtain ⟨v6a, hPv⟩ : ∃ V, Hid (PutR 36 ((w6.alloc (.cells (zrV : List Value).toArray 36)).alloc (.cells (zrF : List Value).toArray 48)) V w6.heap.size 36 ([.int .i64 x.st, .int .i64 x.fo, .int .i64 x.pub, .slice xa xn xc, .slice ya yn yc])) := put_row bV0 rfl sizeVw (view_one _ _ _ _ _ _ _ _ _)
  have bF1 := bF0.grown hPv.out.grown (fun e => by injection e with e; omega)
  obtain ⟨v6, hPf⟩ : ∃ V, Hid (PutR 48 v6a V (w6.heap.size + 1) 48 (forkC f fa fn fc)) := put_row bF1 (by rw [forkC_len okf'.out]; rfl) (by rw [forkC_len okf'.out]; exact sizeF) (forkC_one okf'.out _ _ _)
  have hst := below_grown (below_grown al hPv.out.grown al.size (Nat.le_refl _)) hPf.out.grown (Nat.le_trans al.size hPv.out.grown.size) (Nat.le_succ _)
  have hBx := Lib.hid (hPv.out.blk.grown hPf.out.grown (fun e => by injection e with e; omega))
  clear al bV0 bF0 bF1 okf'
  replace hBa := Lib.hid (hBa.out.below hst hBa.out.lt)
  replace hBh := Lib.hid (hBh.out.below hst hBh.out.lt)
  replace hMx := Lib.hid (hMx.out.below hst)
  replace hbw := Lib.hid (hbw.out.trans (hst.mono hbw.out.size))
  clear hst
  obtain ⟨g7, hg7⟩ : ∃ g, Hid (w6.heap.size = g) := ⟨_, rfl⟩
  go_upto_region 6 with (first
    | (refine wpList_store_mid (by rfl) 36 (.tmp 7) (.tmp 32) (by rfl) w6.heap.size 0 ([.int .i64 x.st, .int .i64 x.fo, .int .i64 x.pub, .slice xa xn xc, .slice ya yn yc]).toArray (by rfl) (by rfl) hPv.out.there hPv.out.info (by simpa using hPv.out.one) ?_
       generalize hWq : World.setCells _ _ _ _ = Wa
       obtain rfl : v6a = Wa := by rw [← hWq]; exact hPv.out.eq
       clear hWq)
    | (refine wpList_store_mid (by rfl) 48 (.tmp 8) (.tmp 33) (by rfl) (w6.heap.size + 1) 0 ((forkC f fa fn fc)).toArray (by rfl) (by rfl) hPf.out.there hPf.out.info (by simpa using hPf.out.one) ?_
       generalize hWq : World.setCells _ _ _ _ = Wa
       obtain rfl : v6 = Wa := by rw [← hWq]; exact hPf.out.eq
       clear hWq))
  clear hPv hPf
  rw [hg7.out]
  rw [hg7.out] at hBx
  by_cases he : e = 0
  case neg =>
    rcases hae.out he with ⟨rfl, hxv⟩ | rfl
    · subst hxv
      obtain rfl : xn = 0 := hMx.out.ds.len.symm
      obtain rfl : yn = 0 := hMx.out.hs.rs.len.symm
      clear he hae hao
      have b0 := hBx.out.at_ (i := 0) rfl
      have b1 := hBx.out.at_ (i := 1) rfl
      have b2 := hBx.out.at_ (i := 2) rfl
      have b3 := hBx.out.at_ (i := 3) rfl
      have b4 := hBx.out.at_ (i := 4) rfl
      go_wp2_with fail
      refine (sameV_any zeroV xa 0 xc ya 0 yc none 0 none 0 _ hMx.out (vm0 _)).mono ?_
      rintro e2 w8 ⟨rfl, hst⟩
      clear b0 b1 b2 b3 b4
      replace hbw := Lib.hid (hbw.out.trans (hst.mono hbw.out.size))
      clear hst
      have hf := Lib.hid (hfin.out _ hbw.out)
      go_wp2_with fail
      exact hf.out
    · clear he hae hao
      have hf := Lib.hid (hfin.out _ hbw.out)
      go_wp2_with fail
      exact hf.out
  case pos =>
  subst he
  obtain ⟨hOk, hds, hhs, -, -, -⟩ := hao.out rfl
  have hck := Lib.hid (show Go.Vw.checkV x = 0 by unfold Go.Vw.checkV; rw [(Go.Vw.validB_iff x).2 hOk]; rfl)
  have hkeep := Lib.hid (show ∀ y ∈ va.hs, (x.hs.any (fun z => eqH z y)) = true from fun y hy => List.any_eq_true.2 ⟨y, by rw [hhs]; exact Go.Vw.mem_insH h va.hs y hy, Go.Proofs.YtiionehcmoginaaDoor.eqH_refl y⟩)
  have hmet := Lib.hid (show (x.hs.any (fun z => eqH z h) || va.hs.any (fun y => y.no == h.no)) = true by
    rw [hhs, Bool.or_eq_true, List.any_eq_true, List.any_eq_true]
    rcases Go.Vw.insH_met h va.hs with hm | ⟨y, hy, e⟩
    · exact .inl ⟨h, hm, Go.Proofs.YtiionehcmoginaaDoor.eqH_refl h⟩
    · exact .inr ⟨y, hy, by simpa using e⟩)
  have lv := Lib.hid hVA.out.hs.rs.len
  have lx := Lib.hid hMx.out.hs.rs.len
  have ld := hVA.out.ds.len
  have le := hES.out.rs.len
  have bv := Lib.hid hVA.out.hs.bd
  have bx := Lib.hid hMx.out.hs.bd
  have be := hES.out.bd
  have bd := hVA.out.bd
  clear hOk hhs hae hao
  by_cases hle : dn ≤ ln
  case pos =>
    rw [if_pos (by rw [ld, le]; exact hle)] at hds
    have g1 : decide ((dn : Int) ≤ (ln : Int)) = true := decide_eq_true (by omega)
    have g2 : decide (dn ≤ ln) = true := decide_eq_true hle
    have hdl : x.ds.length = ln := by rw [hds, List.length_map]; exact le
    have hdg := Lib.hid (fun W H => digs32_any (fun _ => True) la ln lc es W H)
    rw [← hds] at hdg
    unfold ColPost at hdg
    rw [hdl] at hdg
    clear hds ld le hle hdl
    have a3 := hBa.out.at_ (i := 3) rfl
    go_wp2_with fail
    refine (hdg.out _ (hES.out.below hbw.out)).mono ?_
    rintro e2 w8 ⟨wa, wc, rfl, hD, hst⟩
    clear hdg
    clear a3 g1 g2
    replace hBa := Lib.hid (hBa.out.below hst hBa.out.lt)
    replace hBh := Lib.hid (hBh.out.below hst hBh.out.lt)
    replace hMx := Lib.hid (hMx.out.below hst)
    replace hBx := Lib.hid (hBx.out.below hst hBx.out.lt)
    replace hbw := Lib.hid (hbw.out.trans (hst.mono hbw.out.size))
    clear hst
    have hDw := Lib.hid hD
    clear hD
    have b0 := hBx.out.at_ (i := 0) rfl
    have b1 := hBx.out.at_ (i := 1) rfl
    have b2 := hBx.out.at_ (i := 2) rfl
    have b3 := hBx.out.at_ (i := 3) rfl
    have b4 := hBx.out.at_ (i := 4) rfl
    go_wp2_with fail
    have hcc := viewCheck_any x xa xn xc ya yn yc _ (HT'.out.below hbw.out) hMx.out
    rw [hck.out] at hcc
    refine hcc.mono ?_
    rintro e2 w9 ⟨rfl, hst⟩
    clear hcc b0 b1 b2 b3 b4
    replace hBa := Lib.hid (hBa.out.below hst hBa.out.lt)
    replace hBh := Lib.hid (hBh.out.below hst hBh.out.lt)
    replace hMx := Lib.hid (hMx.out.below hst)
    replace hBx := Lib.hid (hBx.out.below hst hBx.out.lt)
    replace hDw := Lib.hid (hDw.out.below hst)
    replace hbw := Lib.hid (hbw.out.trans (hst.mono hbw.out.size))
    clear hst
    have b3 := hBx.out.at_ (i := 3) rfl
    go_wp2_with fail
    have hcc := sameD_any xa xn xc x.ds wa ln wc x.ds _ hMx.out.ds hDw.out
    rw [decide_eq_true (rfl : x.ds = x.ds)] at hcc
    refine hcc.mono ?_
    rintro e2 w10 ⟨rfl, hst⟩
    clear hcc b3
    replace hBa := Lib.hid (hBa.out.below hst hBa.out.lt)
    replace hBh := Lib.hid (hBh.out.below hst hBh.out.lt)
    replace hMx := Lib.hid (hMx.out.below hst)
    replace hBx := Lib.hid (hBx.out.below hst hBx.out.lt)
    replace hDw := Lib.hid (hDw.out.below hst)
    replace hbw := Lib.hid (hbw.out.trans (hst.mono hbw.out.size))
    clear hst
    clear hDw
    have b4 := hBx.out.at_ (i := 4) rfl
    go_wp2_with fail
    clear b4
    go_loopw [11, 13] (fun b i wr => ∃ (k : Nat) (q : Bool), k ≤ yn ∧ b = .bool q ∧ i = .int .i64 k ∧ Hid ((q || (x.hs.drop k).any (fun z => eqH z h)) = x.hs.any (fun z => eqH z h)) ∧ Hid (Below w10.heap.size w10 wr)) (fun _ i _ => yn - (intOf i).toNat)
    case atStart => exact ⟨0, false, Nat.zero_le _, rfl, rfl, rfl, Below.refl _ _⟩
    case round =>
      obtain ⟨k, q, hk, rfl, rfl, hany, hbr⟩ := hrel
      have hst := hbr.out
      replace hBa := Lib.hid (hBa.out.below hst hBa.out.lt)
      replace hBh := Lib.hid (hBh.out.below hst hBh.out.lt)
      replace hMx := Lib.hid (hMx.out.below hst)
      replace hBx := Lib.hid (hBx.out.below hst hBx.out.lt)
      replace hbw := Lib.hid (hbw.out.trans (hst.mono hbw.out.size))
      clear hst
      have b4 := hBx.out.at_ (i := 4) rfl
      have xlt := hBx.out.lt
      have hlt5 := hBh.out.lt
      have x63 : (yn : Int) ≤ 100000 := by have := bx.out; omega
      by_cases hlt : k < yn
      · cases q with
        | true =>
          have k0 : (0 : Int) ≤ (k : Int) := by omega
          have k1 : (k : Int) < (yn : Int) := by omega
          go_upto_region 17 with fail
          refine wp_region_held_drew (S := fun wz => Below wr.heap.size wr wz) (by kernel_rfl) ((Below.refl _ wr).drew) (fun hHeld => ?_)
          refine wpAnyH_take (i := 0) (oi := { dst := some 75, op := Op.move (Operand.tmp 11), type := 4, pos := "law.go:233", after := #[], guard := none }) (v := ?_) rfl (by kernel_rfl) (by kernel_rfl) (by kernel_rfl) (fun _ _ _ h => h) (Or.inl ⟨by rfl, ?_⟩) hHeld ?_
          rotate_left
          · intro wz hSw
            go_simp
            all_goals (with_reducible rfl)
          try simp only [Act.put, List.setIfInBounds_toArray, List.set_cons_zero, List.set_cons_succ]
          refine wpAnyH_take (i := 1) (oi := { dst := some 76, op := Op.move (Operand.tmp 75), type := 4, pos := "law.go:233", after := #[{ on := 0, ground := Ground.data }], guard := none }) (v := ?_) rfl (by kernel_rfl) (by kernel_rfl) (by kernel_rfl) (fun _ _ _ h => h) (Or.inl ⟨by rfl, ?_⟩) hHeld ?_
          rotate_left
          · intro wz hSw
            go_simp
            all_goals (with_reducible rfl)
          try simp only [Act.put, List.setIfInBounds_toArray, List.set_cons_zero, List.set_cons_succ]
          refine wpAnyH_take (i := 2) (oi := { dst := some 77, op := Op.fieldAddr 36 (Operand.tmp 7) 4, type := 0, pos := "law.go:233", after := #[{ on := 1, ground := Ground.guard }], guard := some (1, false) }) (v := undef) rfl (by kernel_rfl) (by kernel_rfl) (by kernel_rfl) (fun _ _ _ h => h) (Or.inr ⟨by rfl, rfl⟩) hHeld ?_
          try simp only [Act.put, List.setIfInBounds_toArray, List.set_cons_zero, List.set_cons_succ]
          refine wpAnyH_take (i := 3) (oi := { dst := some 78, op := Op.load 34 (Operand.tmp 77), type := 34, pos := "law.go:233", after := #[{ on := 2, ground := Ground.data }, { on := 1, ground := Ground.guard }], guard := some (1, false) }) (v := undef) rfl (by kernel_rfl) (by kernel_rfl) (by kernel_rfl) (fun _ _ _ h => h) (Or.inr ⟨by rfl, rfl⟩) hHeld ?_
          try simp only [Act.put, List.setIfInBounds_toArray, List.set_cons_zero, List.set_cons_succ]
          refine wpAnyH_take (i := 4) (oi := { dst := some 79, op := Op.move (Operand.tmp 13), type := 3, pos := "law.go:233", after := #[{ on := 1, ground := Ground.guard }], guard := some (1, false) }) (v := undef) rfl (by kernel_rfl) (by kernel_rfl) (by kernel_rfl) (fun _ _ _ h => h) (Or.inr ⟨by rfl, rfl⟩) hHeld ?_
          try simp only [Act.put, List.setIfInBounds_toArray, List.set_cons_zero, List.set_cons_succ]
          refine wpAnyH_take (i := 5) (oi := { dst := some 80, op := Op.indexAddr 34 (Operand.tmp 78) (Operand.tmp 79), type := 0, pos := "law.go:233", after := #[{ on := 3, ground := Ground.data }, { on := 4, ground := Ground.data }, { on := 1, ground := Ground.guard }], guard := some (1, false) }) (v := undef) rfl (by kernel_rfl) (by kernel_rfl) (by kernel_rfl) (fun _ _ _ h => h) (Or.inr ⟨by rfl, rfl⟩) hHeld ?_
          try simp only [Act.put, List.setIfInBounds_toArray, List.set_cons_zero, List.set_cons_succ]
          refine wpAnyH_take (i := 6) (oi := { dst := some 81, op := Op.load 46 (Operand.tmp 80), type := 46, pos := "law.go:233", after := #[{ on := 5, ground := Ground.data }, { on := 1, ground := Ground.guard }], guard := some (1, false) }) (v := undef) rfl (by kernel_rfl) (by kernel_rfl) (by kernel_rfl) (fun _ _ _ h => h) (Or.inr ⟨by rfl, rfl⟩) hHeld ?_
          try simp only [Act.put, List.setIfInBounds_toArray, List.set_cons_zero, List.set_cons_succ]
          refine wpAnyH_take (i := 7) (oi := { dst := some 82, op := Op.load 46 (Operand.tmp 5), type := 46, pos := "law.go:233", after := #[{ on := 1, ground := Ground.guard }], guard := some (1, false) }) (v := undef) rfl (by kernel_rfl) (by kernel_rfl) (by kernel_rfl) (fun _ _ _ h => h) (Or.inr ⟨by rfl, rfl⟩) hHeld ?_
          try simp only [Act.put, List.setIfInBounds_toArray, List.set_cons_zero, List.set_cons_succ]
          refine wpAnyH_take (i := 8) (oi := { dst := some 83, op := Op.binOp BinOp.eql 46 (Operand.tmp 81) (Operand.tmp 82) 46, type := 4, pos := "law.go:233", after := #[{ on := 6, ground := Ground.data }, { on := 7, ground := Ground.data }, { on := 1, ground := Ground.guard }], guard := some (1, false) }) (v := undef) rfl (by kernel_rfl) (by kernel_rfl) (by kernel_rfl) (fun _ _ _ h => h) (Or.inr ⟨by rfl, rfl⟩) hHeld ?_
          try simp only [Act.put, List.setIfInBounds_toArray, List.set_cons_zero, List.set_cons_succ]
          refine wpAnyH_take (i := 9) (oi := { dst := some 84, op := Op.pick (Operand.tmp 76) (Operand.const (Value.bool true)) (Operand.tmp 83), type := 4, pos := "law.go:233", after := #[{ on := 1, ground := Ground.data }, { on := 8, ground := Ground.data }], guard := none }) (v := ?_) rfl (by kernel_rfl) (by kernel_rfl) (by kernel_rfl) (fun _ _ _ h => h) (Or.inl ⟨by rfl, ?_⟩) hHeld ?_
          rotate_left
          · intro wz hSw
            go_simp
            all_goals (with_reducible rfl)
          try simp only [Act.put, List.setIfInBounds_toArray, List.set_cons_zero, List.set_cons_succ]
          refine wpAnyH_take (i := 10) (oi := { dst := some 11, op := Op.assign (Operand.tmp 84), type := 4, pos := "law.go:233", after := #[{ on := 9, ground := Ground.data }, { on := 1, ground := Ground.chain }, { on := 0, ground := Ground.phase }, { on := 1, ground := Ground.phase }, { on := 2, ground := Ground.phase }, { on := 3, ground := Ground.phase }, { on := 4, ground := Ground.phase }, { on := 5, ground := Ground.phase }, { on := 6, ground := Ground.phase }, { on := 7, ground := Ground.phase }, { on := 8, ground := Ground.phase }, { on := 9, ground := Ground.phase }], guard := none }) (v := ?_) rfl (by kernel_rfl) (by kernel_rfl) (by kernel_rfl) (fun _ _ _ h => h) (Or.inl ⟨by rfl, ?_⟩) hHeld ?_
          rotate_left
          · intro wz hSw
            go_simp
            all_goals (with_reducible rfl)
          try simp only [Act.put, List.setIfInBounds_toArray, List.set_cons_zero, List.set_cons_succ]
          refine wpAnyH_done (by kernel_rfl) ?_ _
          have hb2 := Lib.hid (hbr.out.trans (hHeld.mono hbr.out.size))
          clear hHeld
          go_wp2_with fail
          go_roundw
          case rel => exact ⟨k + 1, true, by omega, rfl, by go_num, hany.out, hb2⟩
          case measure => simp [intOf]; omega
        | false =>
          obtain ⟨y, hy⟩ : ∃ y, x.hs[k]? = some y := ⟨_, List.getElem?_eq_getElem (by have := lx.out; omega)⟩
          obtain ⟨p1, o1, rfl, hl1, oky, r1⟩ := hMx.out.hs.get hy
          have hiy := infoHd oky
          have heq := fun W => eq_head oky ok'.out W
          obtain ⟨r, hr⟩ : ∃ r, Hid (eqH y h = r) := ⟨_, rfl⟩
          have hst2 := Lib.hid (show (r || (x.hs.drop (k + 1)).any (fun z => eqH z h)) = x.hs.any (fun z => eqH z h) by rw [← hany.out, Bool.false_or, Go.Vw.any_step _ hy, hr.out])
          rw [hr.out] at heq
          have k0 : (0 : Int) ≤ (k : Int) := by omega
          have k1 : (k : Int) < (yn : Int) := by omega
          have r1' := Lib.hid r1
          have r2' := Lib.hid hBh.out.range
          clear hr hy r1 oky
          go_upto_region 17 with fail
          refine wp_region_held_drew (S := fun wz => Below wr.heap.size wr wz) (by kernel_rfl) ((Below.refl _ wr).drew) (fun hHeld => ?_)
          refine wpAnyH_take (i := 0) (oi := { dst := some 75, op := Op.move (Operand.tmp 11), type := 4, pos := "law.go:233", after := #[], guard := none }) (v := ?_) rfl (by kernel_rfl) (by kernel_rfl) (by kernel_rfl) (fun _ _ _ h => h) (Or.inl ⟨by rfl, ?_⟩) hHeld ?_
          rotate_left
          · intro wz hSw
            go_simp
            all_goals (with_reducible rfl)
          try simp only [Act.put, List.setIfInBounds_toArray, List.set_cons_zero, List.set_cons_succ]
          refine wpAnyH_take (i := 1) (oi := { dst := some 76, op := Op.move (Operand.tmp 75), type := 4, pos := "law.go:233", after := #[{ on := 0, ground := Ground.data }], guard := none }) (v := ?_) rfl (by kernel_rfl) (by kernel_rfl) (by kernel_rfl) (fun _ _ _ h => h) (Or.inl ⟨by rfl, ?_⟩) hHeld ?_
          rotate_left
          · intro wz hSw
            go_simp
            all_goals (with_reducible rfl)
          try simp only [Act.put, List.setIfInBounds_toArray, List.set_cons_zero, List.set_cons_succ]
          refine wpAnyH_take (i := 2) (oi := { dst := some 77, op := Op.fieldAddr 36 (Operand.tmp 7) 4, type := 0, pos := "law.go:233", after := #[{ on := 1, ground := Ground.guard }], guard := some (1, false) }) (v := ?_) rfl (by kernel_rfl) (by kernel_rfl) (by kernel_rfl) (fun _ _ _ h => h) (Or.inl ⟨by rfl, ?_⟩) hHeld ?_
          rotate_left
          · intro wz hSw
            go_simp
            all_goals (with_reducible rfl)
          try simp only [Act.put, List.setIfInBounds_toArray, List.set_cons_zero, List.set_cons_succ]
          refine wpAnyH_take (i := 3) (oi := { dst := some 78, op := Op.load 34 (Operand.tmp 77), type := 34, pos := "law.go:233", after := #[{ on := 2, ground := Ground.data }, { on := 1, ground := Ground.guard }], guard := some (1, false) }) (v := ?_) rfl (by kernel_rfl) (by kernel_rfl) (by kernel_rfl) (fun _ _ _ h => h) (Or.inl ⟨by rfl, ?_⟩) hHeld ?_
          rotate_left
          · intro wz hSw
            have q := (hSw.cell (p := ⟨g7, 4, none⟩) xlt).trans b4
            go_simp
            all_goals (with_reducible rfl)
          try simp only [Act.put, List.setIfInBounds_toArray, List.set_cons_zero, List.set_cons_succ]
          refine wpAnyH_take (i := 4) (oi := { dst := some 79, op := Op.move (Operand.tmp 13), type := 3, pos := "law.go:233", after := #[{ on := 1, ground := Ground.guard }], guard := some (1, false) }) (v := ?_) rfl (by kernel_rfl) (by kernel_rfl) (by kernel_rfl) (fun _ _ _ h => h) (Or.inl ⟨by rfl, ?_⟩) hHeld ?_
          rotate_left
          · intro wz hSw
            go_simp
            all_goals (with_reducible rfl)
          try simp only [Act.put, List.setIfInBounds_toArray, List.set_cons_zero, List.set_cons_succ]
          refine wpAnyH_take (i := 5) (oi := { dst := some 80, op := Op.indexAddr 34 (Operand.tmp 78) (Operand.tmp 79), type := 0, pos := "law.go:233", after := #[{ on := 3, ground := Ground.data }, { on := 4, ground := Ground.data }, { on := 1, ground := Ground.guard }], guard := some (1, false) }) (v := ?_) rfl (by kernel_rfl) (by kernel_rfl) (by kernel_rfl) (fun _ _ _ h => h) (Or.inl ⟨by rfl, ?_⟩) hHeld ?_
          rotate_left
          · intro wz hSw
            go_simp
            all_goals (with_reducible rfl)
          try simp only [Act.put, List.setIfInBounds_toArray, List.set_cons_zero, List.set_cons_succ]
          refine wpAnyH_take (i := 6) (oi := { dst := some 81, op := Op.load 46 (Operand.tmp 80), type := 46, pos := "law.go:233", after := #[{ on := 5, ground := Ground.data }, { on := 1, ground := Ground.guard }], guard := some (1, false) }) rfl (by kernel_rfl) (by kernel_rfl) (by kernel_rfl) (fun _ _ _ h => h) (yieldsIf_load_mid (by rfl) _ _ rfl p1 (o1 + k * 37) rfl (hdC y) _ (fun wz h => fun j v hv => (h.cell (p := ⟨p1, _, none⟩) hl1).trans (r1'.out j v hv)) Tryd.underlying46 rfl (hiy.out)) hHeld ?_
          try simp only [Act.put, List.setIfInBounds_toArray, List.set_cons_zero, List.set_cons_succ]
          refine wpAnyH_take (i := 7) (oi := { dst := some 82, op := Op.load 46 (Operand.tmp 5), type := 46, pos := "law.go:233", after := #[{ on := 1, ground := Ground.guard }], guard := some (1, false) }) rfl (by kernel_rfl) (by kernel_rfl) (by kernel_rfl) (fun _ _ _ h => h) (yieldsIf_load_mid (by rfl) _ _ rfl (tb + 1) 0 rfl (hdC h) _ (fun wz h => fun j v hv => (h.cell (p := ⟨tb + 1, _, none⟩) hlt5).trans (r2'.out j v hv)) Tryd.underlying46 rfl (hri.out)) hHeld ?_
          try simp only [Act.put, List.setIfInBounds_toArray, List.set_cons_zero, List.set_cons_succ]
          refine wpAnyH_take (i := 8) (oi := { dst := some 83, op := Op.binOp BinOp.eql 46 (Operand.tmp 81) (Operand.tmp 82) 46, type := 4, pos := "law.go:233", after := #[{ on := 6, ground := Ground.data }, { on := 7, ground := Ground.data }, { on := 1, ground := Ground.guard }], guard := some (1, false) }) (v := ?_) rfl (by kernel_rfl) (by kernel_rfl) (by kernel_rfl) (fun _ _ _ h => h) (Or.inl ⟨by rfl, ?_⟩) hHeld ?_
          rotate_left
          · intro wz hSw
            go_simp
            all_goals (with_reducible rfl)
          try simp only [Act.put, List.setIfInBounds_toArray, List.set_cons_zero, List.set_cons_succ]
          refine wpAnyH_take (i := 9) (oi := { dst := some 84, op := Op.pick (Operand.tmp 76) (Operand.const (Value.bool true)) (Operand.tmp 83), type := 4, pos := "law.go:233", after := #[{ on := 1, ground := Ground.data }, { on := 8, ground := Ground.data }], guard := none }) (v := ?_) rfl (by kernel_rfl) (by kernel_rfl) (by kernel_rfl) (fun _ _ _ h => h) (Or.inl ⟨by rfl, ?_⟩) hHeld ?_
          rotate_left
          · intro wz hSw
            go_simp
            all_goals (with_reducible rfl)
          try simp only [Act.put, List.setIfInBounds_toArray, List.set_cons_zero, List.set_cons_succ]
          refine wpAnyH_take (i := 10) (oi := { dst := some 11, op := Op.assign (Operand.tmp 84), type := 4, pos := "law.go:233", after := #[{ on := 9, ground := Ground.data }, { on := 1, ground := Ground.chain }, { on := 0, ground := Ground.phase }, { on := 1, ground := Ground.phase }, { on := 2, ground := Ground.phase }, { on := 3, ground := Ground.phase }, { on := 4, ground := Ground.phase }, { on := 5, ground := Ground.phase }, { on := 6, ground := Ground.phase }, { on := 7, ground := Ground.phase }, { on := 8, ground := Ground.phase }, { on := 9, ground := Ground.phase }], guard := none }) (v := ?_) rfl (by kernel_rfl) (by kernel_rfl) (by kernel_rfl) (fun _ _ _ h => h) (Or.inl ⟨by rfl, ?_⟩) hHeld ?_
          rotate_left
          · intro wz hSw
            go_simp
            all_goals (with_reducible rfl)
          try simp only [Act.put, List.setIfInBounds_toArray, List.set_cons_zero, List.set_cons_succ]
          refine wpAnyH_done (by kernel_rfl) ?_ _
          have hb2 := Lib.hid (hbr.out.trans (hHeld.mono hbr.out.size))
          clear hHeld
          go_wp2_with fail
          go_roundw
          case rel => exact ⟨k + 1, r, by omega, rfl, by go_num, hst2, hb2⟩
          case measure => simp [intOf]; omega
      · obtain rfl : yn = k := by omega
        have hq : Hid (q = x.hs.any (fun z => eqH z h)) := by show _ = _; rw [← hany.out, Go.Vw.any_end _ (Nat.le_of_eq lx.out), Bool.or_false]
        clear hany hlt
        rw [← hq.out] at hmet
        clear hq
        have a4 := hBa.out.at_ (i := 4) rfl
        go_wp2_with fail
        clear a4 b4
        have v63 : (hn : Int) ≤ 100000 := by have := bv.out; omega
        clear xlt hlt5
        go_loopw [12, 14] (fun b i wq => ∃ (m : Nat) (s : Bool), m ≤ hn ∧ b = .bool s ∧ i = .int .i64 m ∧ Hid ((s || (va.hs.drop m).any (fun y => y.no == h.no)) = va.hs.any (fun y => y.no == h.no)) ∧ Hid (Below wr.heap.size wr wq)) (fun _ i _ => hn - (intOf i).toNat)
        case atStart => exact ⟨0, false, Nat.zero_le _, rfl, rfl, rfl, Below.refl _ _⟩
        case round =>
          generalize wr = wq at *
          obtain ⟨m, s, hm, rfl, rfl, hhad, hbq⟩ := hrel
          have hst := hbq.out
          replace hBa := Lib.hid (hBa.out.below hst hBa.out.lt)
          replace hBh := Lib.hid (hBh.out.below hst hBh.out.lt)
          replace hMx := Lib.hid (hMx.out.below hst)
          replace hBx := Lib.hid (hBx.out.below hst hBx.out.lt)
          replace hbw := Lib.hid (hbw.out.trans (hst.mono hbw.out.size))
          clear hst
          have a4 := hBa.out.at_ (i := 4) rfl
          have b4 := hBx.out.at_ (i := 4) rfl
          by_cases hmlt : m < hn
          · obtain ⟨y, hy⟩ : ∃ y, va.hs[m]? = some y := ⟨_, List.getElem?_eq_getElem (by have := lv.out; omega)⟩
            have hky := Lib.hid (hkeep.out y (List.mem_of_getElem? hy))
            have hnext := Lib.hid (Go.Vw.any_step (fun y => y.no == h.no) hy)
            obtain ⟨p2, o2, rfl, hl2, oky, r2⟩ := (hVA.out.below hbw.out).hs.get hy
            have hiy := infoHd oky
            have oky' := Lib.hid oky
            have r2' := Lib.hid r2
            have m0 : (0 : Int) ≤ (m : Int) := by omega
            have m1 : (m : Int) < (hn : Int) := by omega
            clear hy r2 oky hkeep
            go_wp2_with fail
            clear a4 b4
            go_loopw [15, 16] (fun b i wv => ∃ (k : Nat) (q2 : Bool), k ≤ yn ∧ b = .bool q2 ∧ i = .int .i64 k ∧ Hid ((q2 || (x.hs.drop k).any (fun z => eqH z y)) = true) ∧ Hid (Below wq.heap.size wq wv)) (fun _ i _ => yn - (intOf i).toNat)
            case atStart => exact ⟨0, false, Nat.zero_le _, rfl, rfl, hky.out, Below.refl _ _⟩
            case round =>
              generalize wr = wv at *
              obtain ⟨k, q2, hk, rfl, rfl, hany, hbv⟩ := hrel
              have hst := hbv.out
              replace r2' := Lib.hid (show wv.rangeAt p2 (o2 + m * 37) (hdC y) from fun j v hv => (hst.cell (p := ⟨p2, _, none⟩) hl2).trans (r2'.out j v hv))
              replace hl2 := Nat.lt_of_lt_of_le hl2 hst.size
              replace hBa := Lib.hid (hBa.out.below hst hBa.out.lt)
              replace hBh := Lib.hid (hBh.out.below hst hBh.out.lt)
              replace hMx := Lib.hid (hMx.out.below hst)
              replace hBx := Lib.hid (hBx.out.below hst hBx.out.lt)
              replace hbw := Lib.hid (hbw.out.trans (hst.mono hbw.out.size))
              clear hst
              have a4 := hBa.out.at_ (i := 4) rfl
              have b4 := hBx.out.at_ (i := 4) rfl
              have alt := hBa.out.lt
              have xlt := hBx.out.lt
              have hlt5 := hBh.out.lt
              by_cases hlt : k < yn
              · cases q2 with
                | true =>
                  have k0 : (0 : Int) ≤ (k : Int) := by omega
                  have k1 : (k : Int) < (yn : Int) := by omega
                  go_upto_region 25 with fail
                  refine wp_region_held_drew (S := fun wz => Below wv.heap.size wv wz) (by kernel_rfl) ((Below.refl _ wv).drew) (fun hHeld => ?_)
                  refine wpAnyH_take (i := 0) (oi := { dst := some 99, op := Op.move (Operand.tmp 15), type := 4, pos := "law.go:238", after := #[], guard := none }) (v := ?_) rfl (by kernel_rfl) (by kernel_rfl) (by kernel_rfl) (fun _ _ _ h => h) (Or.inl ⟨by rfl, ?_⟩) hHeld ?_
                  rotate_left
                  · intro wz hSw
                    go_simp
                    all_goals (with_reducible rfl)
                  try simp only [Act.put, List.setIfInBounds_toArray, List.set_cons_zero, List.set_cons_succ]
                  refine wpAnyH_take (i := 1) (oi := { dst := some 100, op := Op.move (Operand.tmp 99), type := 4, pos := "law.go:238", after := #[{ on := 0, ground := Ground.data }], guard := none }) (v := ?_) rfl (by kernel_rfl) (by kernel_rfl) (by kernel_rfl) (fun _ _ _ h => h) (Or.inl ⟨by rfl, ?_⟩) hHeld ?_
                  rotate_left
                  · intro wz hSw
                    go_simp
                    all_goals (with_reducible rfl)
                  try simp only [Act.put, List.setIfInBounds_toArray, List.set_cons_zero, List.set_cons_succ]
                  refine wpAnyH_take (i := 2) (oi := { dst := some 101, op := Op.fieldAddr 36 (Operand.tmp 7) 4, type := 0, pos := "law.go:238", after := #[{ on := 1, ground := Ground.guard }], guard := some (1, false) }) (v := undef) rfl (by kernel_rfl) (by kernel_rfl) (by kernel_rfl) (fun _ _ _ h => h) (Or.inr ⟨by rfl, rfl⟩) hHeld ?_
                  try simp only [Act.put, List.setIfInBounds_toArray, List.set_cons_zero, List.set_cons_succ]
                  refine wpAnyH_take (i := 3) (oi := { dst := some 102, op := Op.load 34 (Operand.tmp 101), type := 34, pos := "law.go:238", after := #[{ on := 2, ground := Ground.data }, { on := 1, ground := Ground.guard }], guard := some (1, false) }) (v := undef) rfl (by kernel_rfl) (by kernel_rfl) (by kernel_rfl) (fun _ _ _ h => h) (Or.inr ⟨by rfl, rfl⟩) hHeld ?_
                  try simp only [Act.put, List.setIfInBounds_toArray, List.set_cons_zero, List.set_cons_succ]
                  refine wpAnyH_take (i := 4) (oi := { dst := some 103, op := Op.move (Operand.tmp 16), type := 3, pos := "law.go:238", after := #[{ on := 1, ground := Ground.guard }], guard := some (1, false) }) (v := undef) rfl (by kernel_rfl) (by kernel_rfl) (by kernel_rfl) (fun _ _ _ h => h) (Or.inr ⟨by rfl, rfl⟩) hHeld ?_
                  try simp only [Act.put, List.setIfInBounds_toArray, List.set_cons_zero, List.set_cons_succ]
                  refine wpAnyH_take (i := 5) (oi := { dst := some 104, op := Op.indexAddr 34 (Operand.tmp 102) (Operand.tmp 103), type := 0, pos := "law.go:238", after := #[{ on := 3, ground := Ground.data }, { on := 4, ground := Ground.data }, { on := 1, ground := Ground.guard }], guard := some (1, false) }) (v := undef) rfl (by kernel_rfl) (by kernel_rfl) (by kernel_rfl) (fun _ _ _ h => h) (Or.inr ⟨by rfl, rfl⟩) hHeld ?_
                  try simp only [Act.put, List.setIfInBounds_toArray, List.set_cons_zero, List.set_cons_succ]
                  refine wpAnyH_take (i := 6) (oi := { dst := some 105, op := Op.load 46 (Operand.tmp 104), type := 46, pos := "law.go:238", after := #[{ on := 5, ground := Ground.data }, { on := 1, ground := Ground.guard }], guard := some (1, false) }) (v := undef) rfl (by kernel_rfl) (by kernel_rfl) (by kernel_rfl) (fun _ _ _ h => h) (Or.inr ⟨by rfl, rfl⟩) hHeld ?_
                  try simp only [Act.put, List.setIfInBounds_toArray, List.set_cons_zero, List.set_cons_succ]
                  refine wpAnyH_take (i := 7) (oi := { dst := some 106, op := Op.fieldAddr 36 (Operand.tmp 3) 4, type := 0, pos := "law.go:238", after := #[{ on := 1, ground := Ground.guard }], guard := some (1, false) }) (v := undef) rfl (by kernel_rfl) (by kernel_rfl) (by kernel_rfl) (fun _ _ _ h => h) (Or.inr ⟨by rfl, rfl⟩) hHeld ?_
                  try simp only [Act.put, List.setIfInBounds_toArray, List.set_cons_zero, List.set_cons_succ]
                  refine wpAnyH_take (i := 8) (oi := { dst := some 107, op := Op.load 34 (Operand.tmp 106), type := 34, pos := "law.go:238", after := #[{ on := 7, ground := Ground.data }, { on := 1, ground := Ground.guard }], guard := some (1, false) }) (v := undef) rfl (by kernel_rfl) (by kernel_rfl) (by kernel_rfl) (fun _ _ _ h => h) (Or.inr ⟨by rfl, rfl⟩) hHeld ?_
                  try simp only [Act.put, List.setIfInBounds_toArray, List.set_cons_zero, List.set_cons_succ]
                  refine wpAnyH_take (i := 9) (oi := { dst := some 108, op := Op.move (Operand.tmp 14), type := 3, pos := "law.go:238", after := #[{ on := 1, ground := Ground.guard }], guard := some (1, false) }) (v := undef) rfl (by kernel_rfl) (by kernel_rfl) (by kernel_rfl) (fun _ _ _ h => h) (Or.inr ⟨by rfl, rfl⟩) hHeld ?_
                  try simp only [Act.put, List.setIfInBounds_toArray, List.set_cons_zero, List.set_cons_succ]
                  refine wpAnyH_take (i := 10) (oi := { dst := some 109, op := Op.indexAddr 34 (Operand.tmp 107) (Operand.tmp 108), type := 0, pos := "law.go:238", after := #[{ on := 8, ground := Ground.data }, { on := 9, ground := Ground.data }, { on := 1, ground := Ground.guard }], guard := some (1, false) }) (v := undef) rfl (by kernel_rfl) (by kernel_rfl) (by kernel_rfl) (fun _ _ _ h => h) (Or.inr ⟨by rfl, rfl⟩) hHeld ?_
                  try simp only [Act.put, List.setIfInBounds_toArray, List.set_cons_zero, List.set_cons_succ]
                  refine wpAnyH_take (i := 11) (oi := { dst := some 110, op := Op.load 46 (Operand.tmp 109), type := 46, pos := "law.go:238", after := #[{ on := 10, ground := Ground.data }, { on := 1, ground := Ground.guard }], guard := some (1, false) }) (v := undef) rfl (by kernel_rfl) (by kernel_rfl) (by kernel_rfl) (fun _ _ _ h => h) (Or.inr ⟨by rfl, rfl⟩) hHeld ?_
                  try simp only [Act.put, List.setIfInBounds_toArray, List.set_cons_zero, List.set_cons_succ]
                  refine wpAnyH_take (i := 12) (oi := { dst := some 111, op := Op.binOp BinOp.eql 46 (Operand.tmp 105) (Operand.tmp 110) 46, type := 4, pos := "law.go:238", after := #[{ on := 6, ground := Ground.data }, { on := 11, ground := Ground.data }, { on := 1, ground := Ground.guard }], guard := some (1, false) }) (v := undef) rfl (by kernel_rfl) (by kernel_rfl) (by kernel_rfl) (fun _ _ _ h => h) (Or.inr ⟨by rfl, rfl⟩) hHeld ?_
                  try simp only [Act.put, List.setIfInBounds_toArray, List.set_cons_zero, List.set_cons_succ]
                  refine wpAnyH_take (i := 13) (oi := { dst := some 112, op := Op.pick (Operand.tmp 100) (Operand.const (Value.bool true)) (Operand.tmp 111), type := 4, pos := "law.go:238", after := #[{ on := 1, ground := Ground.data }, { on := 12, ground := Ground.data }], guard := none }) (v := ?_) rfl (by kernel_rfl) (by kernel_rfl) (by kernel_rfl) (fun _ _ _ h => h) (Or.inl ⟨by rfl, ?_⟩) hHeld ?_
                  rotate_left
                  · intro wz hSw
                    go_simp
                    all_goals (with_reducible rfl)
                  try simp only [Act.put, List.setIfInBounds_toArray, List.set_cons_zero, List.set_cons_succ]
                  refine wpAnyH_take (i := 14) (oi := { dst := some 15, op := Op.assign (Operand.tmp 112), type := 4, pos := "law.go:238", after := #[{ on := 13, ground := Ground.data }, { on := 1, ground := Ground.chain }, { on := 0, ground := Ground.phase }, { on := 1, ground := Ground.phase }, { on := 2, ground := Ground.phase }, { on := 3, ground := Ground.phase }, { on := 4, ground := Ground.phase }, { on := 5, ground := Ground.phase }, { on := 6, ground := Ground.phase }, { on := 7, ground := Ground.phase }, { on := 8, ground := Ground.phase }, { on := 9, ground := Ground.phase }, { on := 10, ground := Ground.phase }, { on := 11, ground := Ground.phase }, { on := 12, ground := Ground.phase }, { on := 13, ground := Ground.phase }], guard := none }) (v := ?_) rfl (by kernel_rfl) (by kernel_rfl) (by kernel_rfl) (fun _ _ _ h => h) (Or.inl ⟨by rfl, ?_⟩) hHeld ?_
                  rotate_left
                  · intro wz hSw
                    go_simp
                    all_goals (with_reducible rfl)
                  try simp only [Act.put, List.setIfInBounds_toArray, List.set_cons_zero, List.set_cons_succ]
                  refine wpAnyH_done (by kernel_rfl) ?_ _
                  have hb2 := Lib.hid (hbv.out.trans (hHeld.mono hbv.out.size))
                  clear hHeld
                  go_wp2_with fail
                  go_roundw
                  case rel => exact ⟨k + 1, true, by omega, rfl, by go_num, Bool.true_or _, hb2⟩
                  case measure => simp [intOf]; omega
                | false =>
                  obtain ⟨z, hz⟩ : ∃ z, x.hs[k]? = some z := ⟨_, List.getElem?_eq_getElem (by have := lx.out; omega)⟩
                  obtain ⟨p1, o1, rfl, hl1, okz, r1⟩ := hMx.out.hs.get hz
                  have hiz := infoHd okz
                  have heq := fun W => eq_head okz oky'.out W
                  obtain ⟨r, hr⟩ : ∃ r, Hid (eqH z y = r) := ⟨_, rfl⟩
                  have hst2 := Lib.hid (show (r || (x.hs.drop (k + 1)).any (fun z => eqH z y)) = true by rw [← hany.out, Bool.false_or, Go.Vw.any_step _ hz, hr.out])
                  rw [hr.out] at heq
                  have k0 : (0 : Int) ≤ (k : Int) := by omega
                  have k1 : (k : Int) < (yn : Int) := by omega
                  have r1' := Lib.hid r1
                  clear hr hz r1 okz
                  go_upto_region 25 with fail
                  refine wp_region_held_drew (S := fun wz => Below wv.heap.size wv wz) (by kernel_rfl) ((Below.refl _ wv).drew) (fun hHeld => ?_)
                  refine wpAnyH_take (i := 0) (oi := { dst := some 99, op := Op.move (Operand.tmp 15), type := 4, pos := "law.go:238", after := #[], guard := none }) (v := ?_) rfl (by kernel_rfl) (by kernel_rfl) (by kernel_rfl) (fun _ _ _ h => h) (Or.inl ⟨by rfl, ?_⟩) hHeld ?_
                  rotate_left
                  · intro wz hSw
                    go_simp
                    all_goals (with_reducible rfl)
                  try simp only [Act.put, List.setIfInBounds_toArray, List.set_cons_zero, List.set_cons_succ]
                  refine wpAnyH_take (i := 1) (oi := { dst := some 100, op := Op.move (Operand.tmp 99), type := 4, pos := "law.go:238", after := #[{ on := 0, ground := Ground.data }], guard := none }) (v := ?_) rfl (by kernel_rfl) (by kernel_rfl) (by kernel_rfl) (fun _ _ _ h => h) (Or.inl ⟨by rfl, ?_⟩) hHeld ?_
                  rotate_left
                  · intro wz hSw
                    go_simp
                    all_goals (with_reducible rfl)
                  try simp only [Act.put, List.setIfInBounds_toArray, List.set_cons_zero, List.set_cons_succ]
                  refine wpAnyH_take (i := 2) (oi := { dst := some 101, op := Op.fieldAddr 36 (Operand.tmp 7) 4, type := 0, pos := "law.go:238", after := #[{ on := 1, ground := Ground.guard }], guard := some (1, false) }) (v := ?_) rfl (by kernel_rfl) (by kernel_rfl) (by kernel_rfl) (fun _ _ _ h => h) (Or.inl ⟨by rfl, ?_⟩) hHeld ?_
                  rotate_left
                  · intro wz hSw
                    go_simp
                    all_goals (with_reducible rfl)
                  try simp only [Act.put, List.setIfInBounds_toArray, List.set_cons_zero, List.set_cons_succ]
                  refine wpAnyH_take (i := 3) (oi := { dst := some 102, op := Op.load 34 (Operand.tmp 101), type := 34, pos := "law.go:238", after := #[{ on := 2, ground := Ground.data }, { on := 1, ground := Ground.guard }], guard := some (1, false) }) (v := ?_) rfl (by kernel_rfl) (by kernel_rfl) (by kernel_rfl) (fun _ _ _ h => h) (Or.inl ⟨by rfl, ?_⟩) hHeld ?_
                  rotate_left
                  · intro wz hSw
                    have q := (hSw.cell (p := ⟨g7, 4, none⟩) xlt).trans b4
                    go_simp
                    all_goals (with_reducible rfl)
                  try simp only [Act.put, List.setIfInBounds_toArray, List.set_cons_zero, List.set_cons_succ]
                  refine wpAnyH_take (i := 4) (oi := { dst := some 103, op := Op.move (Operand.tmp 16), type := 3, pos := "law.go:238", after := #[{ on := 1, ground := Ground.guard }], guard := some (1, false) }) (v := ?_) rfl (by kernel_rfl) (by kernel_rfl) (by kernel_rfl) (fun _ _ _ h => h) (Or.inl ⟨by rfl, ?_⟩) hHeld ?_
                  rotate_left
                  · intro wz hSw
                    go_simp
                    all_goals (with_reducible rfl)
                  try simp only [Act.put, List.setIfInBounds_toArray, List.set_cons_zero, List.set_cons_succ]
                  refine wpAnyH_take (i := 5) (oi := { dst := some 104, op := Op.indexAddr 34 (Operand.tmp 102) (Operand.tmp 103), type := 0, pos := "law.go:238", after := #[{ on := 3, ground := Ground.data }, { on := 4, ground := Ground.data }, { on := 1, ground := Ground.guard }], guard := some (1, false) }) (v := ?_) rfl (by kernel_rfl) (by kernel_rfl) (by kernel_rfl) (fun _ _ _ h => h) (Or.inl ⟨by rfl, ?_⟩) hHeld ?_
                  rotate_left
                  · intro wz hSw
                    go_simp
                    all_goals (with_reducible rfl)
                  try simp only [Act.put, List.setIfInBounds_toArray, List.set_cons_zero, List.set_cons_succ]
                  refine wpAnyH_take (i := 6) (oi := { dst := some 105, op := Op.load 46 (Operand.tmp 104), type := 46, pos := "law.go:238", after := #[{ on := 5, ground := Ground.data }, { on := 1, ground := Ground.guard }], guard := some (1, false) }) rfl (by kernel_rfl) (by kernel_rfl) (by kernel_rfl) (fun _ _ _ h => h) (yieldsIf_load_mid (by rfl) _ _ rfl p1 (o1 + k * 37) rfl (hdC z) _ (fun wz h => fun j v hv => (h.cell (p := ⟨p1, _, none⟩) hl1).trans (r1'.out j v hv)) Tryd.underlying46 rfl (hiz.out)) hHeld ?_
                  try simp only [Act.put, List.setIfInBounds_toArray, List.set_cons_zero, List.set_cons_succ]
                  refine wpAnyH_take (i := 7) (oi := { dst := some 106, op := Op.fieldAddr 36 (Operand.tmp 3) 4, type := 0, pos := "law.go:238", after := #[{ on := 1, ground := Ground.guard }], guard := some (1, false) }) (v := ?_) rfl (by kernel_rfl) (by kernel_rfl) (by kernel_rfl) (fun _ _ _ h => h) (Or.inl ⟨by rfl, ?_⟩) hHeld ?_
                  rotate_left
                  · intro wz hSw
                    go_simp
                    all_goals (with_reducible rfl)
                  try simp only [Act.put, List.setIfInBounds_toArray, List.set_cons_zero, List.set_cons_succ]
                  refine wpAnyH_take (i := 8) (oi := { dst := some 107, op := Op.load 34 (Operand.tmp 106), type := 34, pos := "law.go:238", after := #[{ on := 7, ground := Ground.data }, { on := 1, ground := Ground.guard }], guard := some (1, false) }) (v := ?_) rfl (by kernel_rfl) (by kernel_rfl) (by kernel_rfl) (fun _ _ _ h => h) (Or.inl ⟨by rfl, ?_⟩) hHeld ?_
                  rotate_left
                  · intro wz hSw
                    have q := (hSw.cell (p := ⟨tb, 4, none⟩) alt).trans a4
                    go_simp
                    all_goals (with_reducible rfl)
                  try simp only [Act.put, List.setIfInBounds_toArray, List.set_cons_zero, List.set_cons_succ]
                  refine wpAnyH_take (i := 9) (oi := { dst := some 108, op := Op.move (Operand.tmp 14), type := 3, pos := "law.go:238", after := #[{ on := 1, ground := Ground.guard }], guard := some (1, false) }) (v := ?_) rfl (by kernel_rfl) (by kernel_rfl) (by kernel_rfl) (fun _ _ _ h => h) (Or.inl ⟨by rfl, ?_⟩) hHeld ?_
                  rotate_left
                  · intro wz hSw
                    go_simp
                    all_goals (with_reducible rfl)
                  try simp only [Act.put, List.setIfInBounds_toArray, List.set_cons_zero, List.set_cons_succ]
                  refine wpAnyH_take (i := 10) (oi := { dst := some 109, op := Op.indexAddr 34 (Operand.tmp 107) (Operand.tmp 108), type := 0, pos := "law.go:238", after := #[{ on := 8, ground := Ground.data }, { on := 9, ground := Ground.data }, { on := 1, ground := Ground.guard }], guard := some (1, false) }) (v := ?_) rfl (by kernel_rfl) (by kernel_rfl) (by kernel_rfl) (fun _ _ _ h => h) (Or.inl ⟨by rfl, ?_⟩) hHeld ?_
                  rotate_left
                  · intro wz hSw
                    go_simp
                    all_goals (with_reducible rfl)
                  try simp only [Act.put, List.setIfInBounds_toArray, List.set_cons_zero, List.set_cons_succ]
                  refine wpAnyH_take (i := 11) (oi := { dst := some 110, op := Op.load 46 (Operand.tmp 109), type := 46, pos := "law.go:238", after := #[{ on := 10, ground := Ground.data }, { on := 1, ground := Ground.guard }], guard := some (1, false) }) rfl (by kernel_rfl) (by kernel_rfl) (by kernel_rfl) (fun _ _ _ h => h) (yieldsIf_load_mid (by rfl) _ _ rfl p2 (o2 + m * 37) rfl (hdC y) _ (fun wz h => fun j v hv => (h.cell (p := ⟨p2, _, none⟩) hl2).trans (r2'.out j v hv)) Tryd.underlying46 rfl (hiy.out)) hHeld ?_
                  try simp only [Act.put, List.setIfInBounds_toArray, List.set_cons_zero, List.set_cons_succ]
                  refine wpAnyH_take (i := 12) (oi := { dst := some 111, op := Op.binOp BinOp.eql 46 (Operand.tmp 105) (Operand.tmp 110) 46, type := 4, pos := "law.go:238", after := #[{ on := 6, ground := Ground.data }, { on := 11, ground := Ground.data }, { on := 1, ground := Ground.guard }], guard := some (1, false) }) (v := ?_) rfl (by kernel_rfl) (by kernel_rfl) (by kernel_rfl) (fun _ _ _ h => h) (Or.inl ⟨by rfl, ?_⟩) hHeld ?_
                  rotate_left
                  · intro wz hSw
                    go_simp
                    all_goals (with_reducible rfl)
                  try simp only [Act.put, List.setIfInBounds_toArray, List.set_cons_zero, List.set_cons_succ]
                  refine wpAnyH_take (i := 13) (oi := { dst := some 112, op := Op.pick (Operand.tmp 100) (Operand.const (Value.bool true)) (Operand.tmp 111), type := 4, pos := "law.go:238", after := #[{ on := 1, ground := Ground.data }, { on := 12, ground := Ground.data }], guard := none }) (v := ?_) rfl (by kernel_rfl) (by kernel_rfl) (by kernel_rfl) (fun _ _ _ h => h) (Or.inl ⟨by rfl, ?_⟩) hHeld ?_
                  rotate_left
                  · intro wz hSw
                    go_simp
                    all_goals (with_reducible rfl)
                  try simp only [Act.put, List.setIfInBounds_toArray, List.set_cons_zero, List.set_cons_succ]
                  refine wpAnyH_take (i := 14) (oi := { dst := some 15, op := Op.assign (Operand.tmp 112), type := 4, pos := "law.go:238", after := #[{ on := 13, ground := Ground.data }, { on := 1, ground := Ground.chain }, { on := 0, ground := Ground.phase }, { on := 1, ground := Ground.phase }, { on := 2, ground := Ground.phase }, { on := 3, ground := Ground.phase }, { on := 4, ground := Ground.phase }, { on := 5, ground := Ground.phase }, { on := 6, ground := Ground.phase }, { on := 7, ground := Ground.phase }, { on := 8, ground := Ground.phase }, { on := 9, ground := Ground.phase }, { on := 10, ground := Ground.phase }, { on := 11, ground := Ground.phase }, { on := 12, ground := Ground.phase }, { on := 13, ground := Ground.phase }], guard := none }) (v := ?_) rfl (by kernel_rfl) (by kernel_rfl) (by kernel_rfl) (fun _ _ _ h => h) (Or.inl ⟨by rfl, ?_⟩) hHeld ?_
                  rotate_left
                  · intro wz hSw
                    go_simp
                    all_goals (with_reducible rfl)
                  try simp only [Act.put, List.setIfInBounds_toArray, List.set_cons_zero, List.set_cons_succ]
                  refine wpAnyH_done (by kernel_rfl) ?_ _
                  have hb2 := Lib.hid (hbv.out.trans (hHeld.mono hbv.out.size))
                  clear hHeld
                  go_wp2_with fail
                  go_roundw
                  case rel => exact ⟨k + 1, r, by omega, rfl, by go_num, hst2.out, hb2⟩
                  case measure => simp [intOf]; omega
              · obtain rfl : yn = k := by omega
                obtain rfl : q2 = true := by have e := hany.out; rw [Go.Vw.any_end _ (Nat.le_of_eq lx.out), Bool.or_false] at e; exact e
                clear hany hlt
                have hbz := Lib.hid (hbq.out.trans (hbv.out.mono hbq.out.size))
                have n2 := r2'.out 2 _ (Go.Proofs.YtiionehcmoginaaDoor.hdC_2 y)
                have h2 := hBh.out.at_ (Go.Proofs.YtiionehcmoginaaDoor.hdC_2 h)
                cases s with
                | true =>
                  go_upto_region 28 with fail
                  refine wp_region_held_drew (S := fun wz => Below wv.heap.size wv wz) (by kernel_rfl) ((Below.refl _ wv).drew) (fun hHeld => ?_)
                  refine wpAnyH_take (i := 0) (oi := { dst := some 115, op := Op.move (Operand.tmp 12), type := 4, pos := "law.go:243", after := #[], guard := none }) (v := ?_) rfl (by kernel_rfl) (by kernel_rfl) (by kernel_rfl) (fun _ _ _ h => h) (Or.inl ⟨by rfl, ?_⟩) hHeld ?_
                  rotate_left
                  · intro wz hSw
                    go_simp
                    all_goals (with_reducible rfl)
                  try simp only [Act.put, List.setIfInBounds_toArray, List.set_cons_zero, List.set_cons_succ]
                  refine wpAnyH_take (i := 1) (oi := { dst := some 116, op := Op.move (Operand.tmp 115), type := 4, pos := "law.go:243", after := #[{ on := 0, ground := Ground.data }], guard := none }) (v := ?_) rfl (by kernel_rfl) (by kernel_rfl) (by kernel_rfl) (fun _ _ _ h => h) (Or.inl ⟨by rfl, ?_⟩) hHeld ?_
                  rotate_left
                  · intro wz hSw
                    go_simp
                    all_goals (with_reducible rfl)
                  try simp only [Act.put, List.setIfInBounds_toArray, List.set_cons_zero, List.set_cons_succ]
                  refine wpAnyH_take (i := 2) (oi := { dst := some 117, op := Op.fieldAddr 36 (Operand.tmp 3) 4, type := 0, pos := "law.go:243", after := #[{ on := 1, ground := Ground.guard }], guard := some (1, false) }) (v := undef) rfl (by kernel_rfl) (by kernel_rfl) (by kernel_rfl) (fun _ _ _ h => h) (Or.inr ⟨by rfl, rfl⟩) hHeld ?_
                  try simp only [Act.put, List.setIfInBounds_toArray, List.set_cons_zero, List.set_cons_succ]
                  refine wpAnyH_take (i := 3) (oi := { dst := some 118, op := Op.load 34 (Operand.tmp 117), type := 34, pos := "law.go:243", after := #[{ on := 2, ground := Ground.data }, { on := 1, ground := Ground.guard }], guard := some (1, false) }) (v := undef) rfl (by kernel_rfl) (by kernel_rfl) (by kernel_rfl) (fun _ _ _ h => h) (Or.inr ⟨by rfl, rfl⟩) hHeld ?_
                  try simp only [Act.put, List.setIfInBounds_toArray, List.set_cons_zero, List.set_cons_succ]
                  refine wpAnyH_take (i := 4) (oi := { dst := some 119, op := Op.move (Operand.tmp 14), type := 3, pos := "law.go:243", after := #[{ on := 1, ground := Ground.guard }], guard := some (1, false) }) (v := undef) rfl (by kernel_rfl) (by kernel_rfl) (by kernel_rfl) (fun _ _ _ h => h) (Or.inr ⟨by rfl, rfl⟩) hHeld ?_
                  try simp only [Act.put, List.setIfInBounds_toArray, List.set_cons_zero, List.set_cons_succ]
                  refine wpAnyH_take (i := 5) (oi := { dst := some 120, op := Op.indexAddr 34 (Operand.tmp 118) (Operand.tmp 119), type := 0, pos := "law.go:243", after := #[{ on := 3, ground := Ground.data }, { on := 4, ground := Ground.data }, { on := 1, ground := Ground.guard }], guard := some (1, false) }) (v := undef) rfl (by kernel_rfl) (by kernel_rfl) (by kernel_rfl) (fun _ _ _ h => h) (Or.inr ⟨by rfl, rfl⟩) hHeld ?_
                  try simp only [Act.put, List.setIfInBounds_toArray, List.set_cons_zero, List.set_cons_succ]
                  refine wpAnyH_take (i := 6) (oi := { dst := some 121, op := Op.fieldAddr 46 (Operand.tmp 120) 2, type := 0, pos := "law.go:243", after := #[{ on := 5, ground := Ground.data }, { on := 1, ground := Ground.guard }], guard := some (1, false) }) (v := undef) rfl (by kernel_rfl) (by kernel_rfl) (by kernel_rfl) (fun _ _ _ h => h) (Or.inr ⟨by rfl, rfl⟩) hHeld ?_
                  try simp only [Act.put, List.setIfInBounds_toArray, List.set_cons_zero, List.set_cons_succ]
                  refine wpAnyH_take (i := 7) (oi := { dst := some 122, op := Op.load 3 (Operand.tmp 121), type := 3, pos := "law.go:243", after := #[{ on := 6, ground := Ground.data }, { on := 1, ground := Ground.guard }], guard := some (1, false) }) (v := undef) rfl (by kernel_rfl) (by kernel_rfl) (by kernel_rfl) (fun _ _ _ h => h) (Or.inr ⟨by rfl, rfl⟩) hHeld ?_
                  try simp only [Act.put, List.setIfInBounds_toArray, List.set_cons_zero, List.set_cons_succ]
                  refine wpAnyH_take (i := 8) (oi := { dst := some 123, op := Op.fieldAddr 46 (Operand.tmp 5) 2, type := 0, pos := "law.go:243", after := #[{ on := 1, ground := Ground.guard }], guard := some (1, false) }) (v := undef) rfl (by kernel_rfl) (by kernel_rfl) (by kernel_rfl) (fun _ _ _ h => h) (Or.inr ⟨by rfl, rfl⟩) hHeld ?_
                  try simp only [Act.put, List.setIfInBounds_toArray, List.set_cons_zero, List.set_cons_succ]
                  refine wpAnyH_take (i := 9) (oi := { dst := some 124, op := Op.load 3 (Operand.tmp 123), type := 3, pos := "law.go:243", after := #[{ on := 8, ground := Ground.data }, { on := 1, ground := Ground.guard }], guard := some (1, false) }) (v := undef) rfl (by kernel_rfl) (by kernel_rfl) (by kernel_rfl) (fun _ _ _ h => h) (Or.inr ⟨by rfl, rfl⟩) hHeld ?_
                  try simp only [Act.put, List.setIfInBounds_toArray, List.set_cons_zero, List.set_cons_succ]
                  refine wpAnyH_take (i := 10) (oi := { dst := some 125, op := Op.binOp BinOp.eql 3 (Operand.tmp 122) (Operand.tmp 124) 3, type := 4, pos := "law.go:243", after := #[{ on := 7, ground := Ground.data }, { on := 9, ground := Ground.data }, { on := 1, ground := Ground.guard }], guard := some (1, false) }) (v := undef) rfl (by kernel_rfl) (by kernel_rfl) (by kernel_rfl) (fun _ _ _ h => h) (Or.inr ⟨by rfl, rfl⟩) hHeld ?_
                  try simp only [Act.put, List.setIfInBounds_toArray, List.set_cons_zero, List.set_cons_succ]
                  refine wpAnyH_take (i := 11) (oi := { dst := some 126, op := Op.pick (Operand.tmp 116) (Operand.const (Value.bool true)) (Operand.tmp 125), type := 4, pos := "law.go:243", after := #[{ on := 1, ground := Ground.data }, { on := 10, ground := Ground.data }], guard := none }) (v := ?_) rfl (by kernel_rfl) (by kernel_rfl) (by kernel_rfl) (fun _ _ _ h => h) (Or.inl ⟨by rfl, ?_⟩) hHeld ?_
                  rotate_left
                  · intro wz hSw
                    go_simp
                    all_goals (with_reducible rfl)
                  try simp only [Act.put, List.setIfInBounds_toArray, List.set_cons_zero, List.set_cons_succ]
                  refine wpAnyH_take (i := 12) (oi := { dst := some 12, op := Op.assign (Operand.tmp 126), type := 4, pos := "law.go:243", after := #[{ on := 11, ground := Ground.data }, { on := 1, ground := Ground.chain }, { on := 0, ground := Ground.phase }, { on := 1, ground := Ground.phase }, { on := 2, ground := Ground.phase }, { on := 3, ground := Ground.phase }, { on := 4, ground := Ground.phase }, { on := 5, ground := Ground.phase }, { on := 6, ground := Ground.phase }, { on := 7, ground := Ground.phase }, { on := 8, ground := Ground.phase }, { on := 9, ground := Ground.phase }, { on := 10, ground := Ground.phase }, { on := 11, ground := Ground.phase }], guard := none }) (v := ?_) rfl (by kernel_rfl) (by kernel_rfl) (by kernel_rfl) (fun _ _ _ h => h) (Or.inl ⟨by rfl, ?_⟩) hHeld ?_
                  rotate_left
                  · intro wz hSw
                    go_simp
                    all_goals (with_reducible rfl)
                  try simp only [Act.put, List.setIfInBounds_toArray, List.set_cons_zero, List.set_cons_succ]
                  refine wpAnyH_done (by kernel_rfl) ?_ _
                  have hb2 := Lib.hid (hbz.out.trans (hHeld.mono hbz.out.size))
                  clear hHeld
                  go_wp2_with fail
                  go_roundw
                  case rel => exact ⟨m + 1, true, by omega, rfl, by go_num, hhad.out, hb2⟩
                  case measure => simp [intOf]; omega
                | false =>
                  obtain ⟨r, hr⟩ : ∃ r, (y.no == h.no) = r := ⟨_, rfl⟩
                  have hst2 := Lib.hid (show (r || (va.hs.drop (m + 1)).any (fun y => y.no == h.no)) = va.hs.any (fun y => y.no == h.no) by rw [← hhad.out, Bool.false_or, hnext.out, hr])
                  go_upto_region 28 with fail
                  refine wp_region_held_drew (S := fun wz => Below wv.heap.size wv wz) (by kernel_rfl) ((Below.refl _ wv).drew) (fun hHeld => ?_)
                  refine wpAnyH_take (i := 0) (oi := { dst := some 115, op := Op.move (Operand.tmp 12), type := 4, pos := "law.go:243", after := #[], guard := none }) (v := ?_) rfl (by kernel_rfl) (by kernel_rfl) (by kernel_rfl) (fun _ _ _ h => h) (Or.inl ⟨by rfl, ?_⟩) hHeld ?_
                  rotate_left
                  · intro wz hSw
                    go_simp
                    all_goals (with_reducible rfl)
                  try simp only [Act.put, List.setIfInBounds_toArray, List.set_cons_zero, List.set_cons_succ]
                  refine wpAnyH_take (i := 1) (oi := { dst := some 116, op := Op.move (Operand.tmp 115), type := 4, pos := "law.go:243", after := #[{ on := 0, ground := Ground.data }], guard := none }) (v := ?_) rfl (by kernel_rfl) (by kernel_rfl) (by kernel_rfl) (fun _ _ _ h => h) (Or.inl ⟨by rfl, ?_⟩) hHeld ?_
                  rotate_left
                  · intro wz hSw
                    go_simp
                    all_goals (with_reducible rfl)
                  try simp only [Act.put, List.setIfInBounds_toArray, List.set_cons_zero, List.set_cons_succ]
                  refine wpAnyH_take (i := 2) (oi := { dst := some 117, op := Op.fieldAddr 36 (Operand.tmp 3) 4, type := 0, pos := "law.go:243", after := #[{ on := 1, ground := Ground.guard }], guard := some (1, false) }) (v := ?_) rfl (by kernel_rfl) (by kernel_rfl) (by kernel_rfl) (fun _ _ _ h => h) (Or.inl ⟨by rfl, ?_⟩) hHeld ?_
                  rotate_left
                  · intro wz hSw
                    go_simp
                    all_goals (with_reducible rfl)
                  try simp only [Act.put, List.setIfInBounds_toArray, List.set_cons_zero, List.set_cons_succ]
                  refine wpAnyH_take (i := 3) (oi := { dst := some 118, op := Op.load 34 (Operand.tmp 117), type := 34, pos := "law.go:243", after := #[{ on := 2, ground := Ground.data }, { on := 1, ground := Ground.guard }], guard := some (1, false) }) (v := ?_) rfl (by kernel_rfl) (by kernel_rfl) (by kernel_rfl) (fun _ _ _ h => h) (Or.inl ⟨by rfl, ?_⟩) hHeld ?_
                  rotate_left
                  · intro wz hSw
                    have q := (hSw.cell (p := ⟨tb, 4, none⟩) alt).trans a4
                    go_simp
                    all_goals (with_reducible rfl)
                  try simp only [Act.put, List.setIfInBounds_toArray, List.set_cons_zero, List.set_cons_succ]
                  refine wpAnyH_take (i := 4) (oi := { dst := some 119, op := Op.move (Operand.tmp 14), type := 3, pos := "law.go:243", after := #[{ on := 1, ground := Ground.guard }], guard := some (1, false) }) (v := ?_) rfl (by kernel_rfl) (by kernel_rfl) (by kernel_rfl) (fun _ _ _ h => h) (Or.inl ⟨by rfl, ?_⟩) hHeld ?_
                  rotate_left
                  · intro wz hSw
                    go_simp
                    all_goals (with_reducible rfl)
                  try simp only [Act.put, List.setIfInBounds_toArray, List.set_cons_zero, List.set_cons_succ]
                  refine wpAnyH_take (i := 5) (oi := { dst := some 120, op := Op.indexAddr 34 (Operand.tmp 118) (Operand.tmp 119), type := 0, pos := "law.go:243", after := #[{ on := 3, ground := Ground.data }, { on := 4, ground := Ground.data }, { on := 1, ground := Ground.guard }], guard := some (1, false) }) (v := ?_) rfl (by kernel_rfl) (by kernel_rfl) (by kernel_rfl) (fun _ _ _ h => h) (Or.inl ⟨by rfl, ?_⟩) hHeld ?_
                  rotate_left
                  · intro wz hSw
                    go_simp
                    all_goals (with_reducible rfl)
                  try simp only [Act.put, List.setIfInBounds_toArray, List.set_cons_zero, List.set_cons_succ]
                  refine wpAnyH_take (i := 6) (oi := { dst := some 121, op := Op.fieldAddr 46 (Operand.tmp 120) 2, type := 0, pos := "law.go:243", after := #[{ on := 5, ground := Ground.data }, { on := 1, ground := Ground.guard }], guard := some (1, false) }) (v := ?_) rfl (by kernel_rfl) (by kernel_rfl) (by kernel_rfl) (fun _ _ _ h => h) (Or.inl ⟨by rfl, ?_⟩) hHeld ?_
                  rotate_left
                  · intro wz hSw
                    go_simp
                    all_goals (with_reducible rfl)
                  try simp only [Act.put, List.setIfInBounds_toArray, List.set_cons_zero, List.set_cons_succ]
                  refine wpAnyH_take (i := 7) (oi := { dst := some 122, op := Op.load 3 (Operand.tmp 121), type := 3, pos := "law.go:243", after := #[{ on := 6, ground := Ground.data }, { on := 1, ground := Ground.guard }], guard := some (1, false) }) (v := ?_) rfl (by kernel_rfl) (by kernel_rfl) (by kernel_rfl) (fun _ _ _ h => h) (Or.inl ⟨by rfl, ?_⟩) hHeld ?_
                  rotate_left
                  · intro wz hSw
                    have q := (hSw.cell (p := ⟨p2, _, none⟩) hl2).trans n2
                    go_simp
                    all_goals (with_reducible rfl)
                  try simp only [Act.put, List.setIfInBounds_toArray, List.set_cons_zero, List.set_cons_succ]
                  refine wpAnyH_take (i := 8) (oi := { dst := some 123, op := Op.fieldAddr 46 (Operand.tmp 5) 2, type := 0, pos := "law.go:243", after := #[{ on := 1, ground := Ground.guard }], guard := some (1, false) }) (v := ?_) rfl (by kernel_rfl) (by kernel_rfl) (by kernel_rfl) (fun _ _ _ h => h) (Or.inl ⟨by rfl, ?_⟩) hHeld ?_
                  rotate_left
                  · intro wz hSw
                    go_simp
                    all_goals (with_reducible rfl)
                  try simp only [Act.put, List.setIfInBounds_toArray, List.set_cons_zero, List.set_cons_succ]
                  refine wpAnyH_take (i := 9) (oi := { dst := some 124, op := Op.load 3 (Operand.tmp 123), type := 3, pos := "law.go:243", after := #[{ on := 8, ground := Ground.data }, { on := 1, ground := Ground.guard }], guard := some (1, false) }) (v := ?_) rfl (by kernel_rfl) (by kernel_rfl) (by kernel_rfl) (fun _ _ _ h => h) (Or.inl ⟨by rfl, ?_⟩) hHeld ?_
                  rotate_left
                  · intro wz hSw
                    have q := (hSw.cell (p := ⟨tb + 1, 2, none⟩) hlt5).trans h2
                    go_simp
                    all_goals (with_reducible rfl)
                  try simp only [Act.put, List.setIfInBounds_toArray, List.set_cons_zero, List.set_cons_succ]
                  refine wpAnyH_take (i := 10) (oi := { dst := some 125, op := Op.binOp BinOp.eql 3 (Operand.tmp 122) (Operand.tmp 124) 3, type := 4, pos := "law.go:243", after := #[{ on := 7, ground := Ground.data }, { on := 9, ground := Ground.data }, { on := 1, ground := Ground.guard }], guard := some (1, false) }) (v := ?_) rfl (by kernel_rfl) (by kernel_rfl) (by kernel_rfl) (fun _ _ _ h => h) (Or.inl ⟨by rfl, ?_⟩) hHeld ?_
                  rotate_left
                  · intro wz hSw
                    go_simp
                    all_goals (with_reducible rfl)
                  try simp only [Act.put, List.setIfInBounds_toArray, List.set_cons_zero, List.set_cons_succ]
                  refine wpAnyH_take (i := 11) (oi := { dst := some 126, op := Op.pick (Operand.tmp 116) (Operand.const (Value.bool true)) (Operand.tmp 125), type := 4, pos := "law.go:243", after := #[{ on := 1, ground := Ground.data }, { on := 10, ground := Ground.data }], guard := none }) (v := ?_) rfl (by kernel_rfl) (by kernel_rfl) (by kernel_rfl) (fun _ _ _ h => h) (Or.inl ⟨by rfl, ?_⟩) hHeld ?_
                  rotate_left
                  · intro wz hSw
                    go_simp
                    all_goals (with_reducible rfl)
                  try simp only [Act.put, List.setIfInBounds_toArray, List.set_cons_zero, List.set_cons_succ]
                  refine wpAnyH_take (i := 12) (oi := { dst := some 12, op := Op.assign (Operand.tmp 126), type := 4, pos := "law.go:243", after := #[{ on := 11, ground := Ground.data }, { on := 1, ground := Ground.chain }, { on := 0, ground := Ground.phase }, { on := 1, ground := Ground.phase }, { on := 2, ground := Ground.phase }, { on := 3, ground := Ground.phase }, { on := 4, ground := Ground.phase }, { on := 5, ground := Ground.phase }, { on := 6, ground := Ground.phase }, { on := 7, ground := Ground.phase }, { on := 8, ground := Ground.phase }, { on := 9, ground := Ground.phase }, { on := 10, ground := Ground.phase }, { on := 11, ground := Ground.phase }], guard := none }) (v := ?_) rfl (by kernel_rfl) (by kernel_rfl) (by kernel_rfl) (fun _ _ _ h => h) (Or.inl ⟨by rfl, ?_⟩) hHeld ?_
                  rotate_left
                  · intro wz hSw
                    go_simp
                    all_goals (with_reducible rfl)
                  try simp only [Act.put, List.setIfInBounds_toArray, List.set_cons_zero, List.set_cons_succ]
                  refine wpAnyH_done (by kernel_rfl) ?_ _
                  have hb2 := Lib.hid (hbz.out.trans (hHeld.mono hbz.out.size))
                  clear hHeld
                  go_wp2_with fail
                  go_roundw
                  case rel => exact ⟨m + 1, r, by omega, rfl, by go_num, hst2.out, hb2⟩
                  case measure => simp [intOf]; omega
          · obtain rfl : hn = m := by omega
            have hs2 : Hid (s = va.hs.any (fun y => y.no == h.no)) := by show _ = _; rw [← hhad.out, Go.Vw.any_end _ (Nat.le_of_eq lv.out), Bool.or_false]
            rw [← hs2.out] at hmet
            have hqs : (q || s) = true := hmet.out
            clear hs2 hhad hmet
            have hf := Lib.hid (hfin.out _ hbw.out)
            cases q with
            | true =>
              go_wp2_with fail
              exact hf.out
            | false =>
              obtain rfl : s = true := hqs
              go_wp2_with fail
              exact hf.out
  case neg =>
    rw [if_neg (by rw [ld, le]; exact hle)] at hds
    have g1 : decide ((dn : Int) ≤ (ln : Int)) = false := decide_eq_false (by omega)
    have g2 : decide (dn ≤ ln) = false := decide_eq_false hle
    have hDw := Lib.hid ((hVA.out.below hbw.out).ds)
    rw [← hds] at hDw
    clear hds ld le hle
    have a3 := hBa.out.at_ (i := 3) rfl
    have b0 := hBx.out.at_ (i := 0) rfl
    have b1 := hBx.out.at_ (i := 1) rfl
    have b2 := hBx.out.at_ (i := 2) rfl
    have b3 := hBx.out.at_ (i := 3) rfl
    have b4 := hBx.out.at_ (i := 4) rfl
    go_wp2_with fail
    have hcc := viewCheck_any x xa xn xc ya yn yc _ (HT'.out.below hbw.out) hMx.out
    rw [hck.out] at hcc
    refine hcc.mono ?_
    rintro e2 w9 ⟨rfl, hst⟩
    clear hcc b0 b1 b2 b3 b4
    replace hBa := Lib.hid (hBa.out.below hst hBa.out.lt)
    replace hBh := Lib.hid (hBh.out.below hst hBh.out.lt)
    replace hMx := Lib.hid (hMx.out.below hst)
    replace hBx := Lib.hid (hBx.out.below hst hBx.out.lt)
    replace hDw := Lib.hid (hDw.out.below hst)
    replace hbw := Lib.hid (hbw.out.trans (hst.mono hbw.out.size))
    clear hst
    have b3 := hBx.out.at_ (i := 3) rfl
    go_wp2_with fail
    have hcc := sameD_any xa xn xc x.ds da dn dc x.ds _ hMx.out.ds hDw.out
    rw [decide_eq_true (rfl : x.ds = x.ds)] at hcc
    refine hcc.mono ?_
    rintro e2 w10 ⟨rfl, hst⟩
    clear hcc b3
    replace hBa := Lib.hid (hBa.out.below hst hBa.out.lt)
    replace hBh := Lib.hid (hBh.out.below hst hBh.out.lt)
    replace hMx := Lib.hid (hMx.out.below hst)
    replace hBx := Lib.hid (hBx.out.below hst hBx.out.lt)
    replace hDw := Lib.hid (hDw.out.below hst)
    replace hbw := Lib.hid (hbw.out.trans (hst.mono hbw.out.size))
    clear hst
    clear hDw
    have b4 := hBx.out.at_ (i := 4) rfl
    go_wp2_with fail
    clear b4
    go_loopw [11, 13] (fun b i wr => ∃ (k : Nat) (q : Bool), k ≤ yn ∧ b = .bool q ∧ i = .int .i64 k ∧ Hid ((q || (x.hs.drop k).any (fun z => eqH z h)) = x.hs.any (fun z => eqH z h)) ∧ Hid (Below w10.heap.size w10 wr)) (fun _ i _ => yn - (intOf i).toNat)
    case atStart => exact ⟨0, false, Nat.zero_le _, rfl, rfl, rfl, Below.refl _ _⟩
    case round =>
      obtain ⟨k, q, hk, rfl, rfl, hany, hbr⟩ := hrel
      have hst := hbr.out
      replace hBa := Lib.hid (hBa.out.below hst hBa.out.lt)
      replace hBh := Lib.hid (hBh.out.below hst hBh.out.lt)
      replace hMx := Lib.hid (hMx.out.below hst)
      replace hBx := Lib.hid (hBx.out.below hst hBx.out.lt)
      replace hbw := Lib.hid (hbw.out.trans (hst.mono hbw.out.size))
      clear hst
      have b4 := hBx.out.at_ (i := 4) rfl
      have xlt := hBx.out.lt
      have hlt5 := hBh.out.lt
      have x63 : (yn : Int) ≤ 100000 := by have := bx.out; omega
      by_cases hlt : k < yn
      · cases q with
        | true =>
          have k0 : (0 : Int) ≤ (k : Int) := by omega
          have k1 : (k : Int) < (yn : Int) := by omega
          go_upto_region 17 with fail
          refine wp_region_held_drew (S := fun wz => Below wr.heap.size wr wz) (by kernel_rfl) ((Below.refl _ wr).drew) (fun hHeld => ?_)
          refine wpAnyH_take (i := 0) (oi := { dst := some 75, op := Op.move (Operand.tmp 11), type := 4, pos := "law.go:233", after := #[], guard := none }) (v := ?_) rfl (by kernel_rfl) (by kernel_rfl) (by kernel_rfl) (fun _ _ _ h => h) (Or.inl ⟨by rfl, ?_⟩) hHeld ?_
          rotate_left
          · intro wz hSw
            go_simp
            all_goals (with_reducible rfl)
          try simp only [Act.put, List.setIfInBounds_toArray, List.set_cons_zero, List.set_cons_succ]
          refine wpAnyH_take (i := 1) (oi := { dst := some 76, op := Op.move (Operand.tmp 75), type := 4, pos := "law.go:233", after := #[{ on := 0, ground := Ground.data }], guard := none }) (v := ?_) rfl (by kernel_rfl) (by kernel_rfl) (by kernel_rfl) (fun _ _ _ h => h) (Or.inl ⟨by rfl, ?_⟩) hHeld ?_
          rotate_left
          · intro wz hSw
            go_simp
            all_goals (with_reducible rfl)
          try simp only [Act.put, List.setIfInBounds_toArray, List.set_cons_zero, List.set_cons_succ]
          refine wpAnyH_take (i := 2) (oi := { dst := some 77, op := Op.fieldAddr 36 (Operand.tmp 7) 4, type := 0, pos := "law.go:233", after := #[{ on := 1, ground := Ground.guard }], guard := some (1, false) }) (v := undef) rfl (by kernel_rfl) (by kernel_rfl) (by kernel_rfl) (fun _ _ _ h => h) (Or.inr ⟨by rfl, rfl⟩) hHeld ?_
          try simp only [Act.put, List.setIfInBounds_toArray, List.set_cons_zero, List.set_cons_succ]
          refine wpAnyH_take (i := 3) (oi := { dst := some 78, op := Op.load 34 (Operand.tmp 77), type := 34, pos := "law.go:233", after := #[{ on := 2, ground := Ground.data }, { on := 1, ground := Ground.guard }], guard := some (1, false) }) (v := undef) rfl (by kernel_rfl) (by kernel_rfl) (by kernel_rfl) (fun _ _ _ h => h) (Or.inr ⟨by rfl, rfl⟩) hHeld ?_
          try simp only [Act.put, List.setIfInBounds_toArray, List.set_cons_zero, List.set_cons_succ]
          refine wpAnyH_take (i := 4) (oi := { dst := some 79, op := Op.move (Operand.tmp 13), type := 3, pos := "law.go:233", after := #[{ on := 1, ground := Ground.guard }], guard := some (1, false) }) (v := undef) rfl (by kernel_rfl) (by kernel_rfl) (by kernel_rfl) (fun _ _ _ h => h) (Or.inr ⟨by rfl, rfl⟩) hHeld ?_
          try simp only [Act.put, List.setIfInBounds_toArray, List.set_cons_zero, List.set_cons_succ]
          refine wpAnyH_take (i := 5) (oi := { dst := some 80, op := Op.indexAddr 34 (Operand.tmp 78) (Operand.tmp 79), type := 0, pos := "law.go:233", after := #[{ on := 3, ground := Ground.data }, { on := 4, ground := Ground.data }, { on := 1, ground := Ground.guard }], guard := some (1, false) }) (v := undef) rfl (by kernel_rfl) (by kernel_rfl) (by kernel_rfl) (fun _ _ _ h => h) (Or.inr ⟨by rfl, rfl⟩) hHeld ?_
          try simp only [Act.put, List.setIfInBounds_toArray, List.set_cons_zero, List.set_cons_succ]
          refine wpAnyH_take (i := 6) (oi := { dst := some 81, op := Op.load 46 (Operand.tmp 80), type := 46, pos := "law.go:233", after := #[{ on := 5, ground := Ground.data }, { on := 1, ground := Ground.guard }], guard := some (1, false) }) (v := undef) rfl (by kernel_rfl) (by kernel_rfl) (by kernel_rfl) (fun _ _ _ h => h) (Or.inr ⟨by rfl, rfl⟩) hHeld ?_
          try simp only [Act.put, List.setIfInBounds_toArray, List.set_cons_zero, List.set_cons_succ]
          refine wpAnyH_take (i := 7) (oi := { dst := some 82, op := Op.load 46 (Operand.tmp 5), type := 46, pos := "law.go:233", after := #[{ on := 1, ground := Ground.guard }], guard := some (1, false) }) (v := undef) rfl (by kernel_rfl) (by kernel_rfl) (by kernel_rfl) (fun _ _ _ h => h) (Or.inr ⟨by rfl, rfl⟩) hHeld ?_
          try simp only [Act.put, List.setIfInBounds_toArray, List.set_cons_zero, List.set_cons_succ]
          refine wpAnyH_take (i := 8) (oi := { dst := some 83, op := Op.binOp BinOp.eql 46 (Operand.tmp 81) (Operand.tmp 82) 46, type := 4, pos := "law.go:233", after := #[{ on := 6, ground := Ground.data }, { on := 7, ground := Ground.data }, { on := 1, ground := Ground.guard }], guard := some (1, false) }) (v := undef) rfl (by kernel_rfl) (by kernel_rfl) (by kernel_rfl) (fun _ _ _ h => h) (Or.inr ⟨by rfl, rfl⟩) hHeld ?_
          try simp only [Act.put, List.setIfInBounds_toArray, List.set_cons_zero, List.set_cons_succ]
          refine wpAnyH_take (i := 9) (oi := { dst := some 84, op := Op.pick (Operand.tmp 76) (Operand.const (Value.bool true)) (Operand.tmp 83), type := 4, pos := "law.go:233", after := #[{ on := 1, ground := Ground.data }, { on := 8, ground := Ground.data }], guard := none }) (v := ?_) rfl (by kernel_rfl) (by kernel_rfl) (by kernel_rfl) (fun _ _ _ h => h) (Or.inl ⟨by rfl, ?_⟩) hHeld ?_
          rotate_left
          · intro wz hSw
            go_simp
            all_goals (with_reducible rfl)
          try simp only [Act.put, List.setIfInBounds_toArray, List.set_cons_zero, List.set_cons_succ]
          refine wpAnyH_take (i := 10) (oi := { dst := some 11, op := Op.assign (Operand.tmp 84), type := 4, pos := "law.go:233", after := #[{ on := 9, ground := Ground.data }, { on := 1, ground := Ground.chain }, { on := 0, ground := Ground.phase }, { on := 1, ground := Ground.phase }, { on := 2, ground := Ground.phase }, { on := 3, ground := Ground.phase }, { on := 4, ground := Ground.phase }, { on := 5, ground := Ground.phase }, { on := 6, ground := Ground.phase }, { on := 7, ground := Ground.phase }, { on := 8, ground := Ground.phase }, { on := 9, ground := Ground.phase }], guard := none }) (v := ?_) rfl (by kernel_rfl) (by kernel_rfl) (by kernel_rfl) (fun _ _ _ h => h) (Or.inl ⟨by rfl, ?_⟩) hHeld ?_
          rotate_left
          · intro wz hSw
            go_simp
            all_goals (with_reducible rfl)
          try simp only [Act.put, List.setIfInBounds_toArray, List.set_cons_zero, List.set_cons_succ]
          refine wpAnyH_done (by kernel_rfl) ?_ _
          have hb2 := Lib.hid (hbr.out.trans (hHeld.mono hbr.out.size))
          clear hHeld
          go_wp2_with fail
          go_roundw
          case rel => exact ⟨k + 1, true, by omega, rfl, by go_num, hany.out, hb2⟩
          case measure => simp [intOf]; omega
        | false =>
          obtain ⟨y, hy⟩ : ∃ y, x.hs[k]? = some y := ⟨_, List.getElem?_eq_getElem (by have := lx.out; omega)⟩
          obtain ⟨p1, o1, rfl, hl1, oky, r1⟩ := hMx.out.hs.get hy
          have hiy := infoHd oky
          have heq := fun W => eq_head oky ok'.out W
          obtain ⟨r, hr⟩ : ∃ r, Hid (eqH y h = r) := ⟨_, rfl⟩
          have hst2 := Lib.hid (show (r || (x.hs.drop (k + 1)).any (fun z => eqH z h)) = x.hs.any (fun z => eqH z h) by rw [← hany.out, Bool.false_or, Go.Vw.any_step _ hy, hr.out])
          rw [hr.out] at heq
          have k0 : (0 : Int) ≤ (k : Int) := by omega
          have k1 : (k : Int) < (yn : Int) := by omega
          have r1' := Lib.hid r1
          have r2' := Lib.hid hBh.out.range
          clear hr hy r1 oky
          go_upto_region 17 with fail
          refine wp_region_held_drew (S := fun wz => Below wr.heap.size wr wz) (by kernel_rfl) ((Below.refl _ wr).drew) (fun hHeld => ?_)
          refine wpAnyH_take (i := 0) (oi := { dst := some 75, op := Op.move (Operand.tmp 11), type := 4, pos := "law.go:233", after := #[], guard := none }) (v := ?_) rfl (by kernel_rfl) (by kernel_rfl) (by kernel_rfl) (fun _ _ _ h => h) (Or.inl ⟨by rfl, ?_⟩) hHeld ?_
          rotate_left
          · intro wz hSw
            go_simp
            all_goals (with_reducible rfl)
          try simp only [Act.put, List.setIfInBounds_toArray, List.set_cons_zero, List.set_cons_succ]
          refine wpAnyH_take (i := 1) (oi := { dst := some 76, op := Op.move (Operand.tmp 75), type := 4, pos := "law.go:233", after := #[{ on := 0, ground := Ground.data }], guard := none }) (v := ?_) rfl (by kernel_rfl) (by kernel_rfl) (by kernel_rfl) (fun _ _ _ h => h) (Or.inl ⟨by rfl, ?_⟩) hHeld ?_
          rotate_left
          · intro wz hSw
            go_simp
            all_goals (with_reducible rfl)
          try simp only [Act.put, List.setIfInBounds_toArray, List.set_cons_zero, List.set_cons_succ]
          refine wpAnyH_take (i := 2) (oi := { dst := some 77, op := Op.fieldAddr 36 (Operand.tmp 7) 4, type := 0, pos := "law.go:233", after := #[{ on := 1, ground := Ground.guard }], guard := some (1, false) }) (v := ?_) rfl (by kernel_rfl) (by kernel_rfl) (by kernel_rfl) (fun _ _ _ h => h) (Or.inl ⟨by rfl, ?_⟩) hHeld ?_
          rotate_left
          · intro wz hSw
            go_simp
            all_goals (with_reducible rfl)
          try simp only [Act.put, List.setIfInBounds_toArray, List.set_cons_zero, List.set_cons_succ]
          refine wpAnyH_take (i := 3) (oi := { dst := some 78, op := Op.load 34 (Operand.tmp 77), type := 34, pos := "law.go:233", after := #[{ on := 2, ground := Ground.data }, { on := 1, ground := Ground.guard }], guard := some (1, false) }) (v := ?_) rfl (by kernel_rfl) (by kernel_rfl) (by kernel_rfl) (fun _ _ _ h => h) (Or.inl ⟨by rfl, ?_⟩) hHeld ?_
          rotate_left
          · intro wz hSw
            have q := (hSw.cell (p := ⟨g7, 4, none⟩) xlt).trans b4
            go_simp
            all_goals (with_reducible rfl)
          try simp only [Act.put, List.setIfInBounds_toArray, List.set_cons_zero, List.set_cons_succ]
          refine wpAnyH_take (i := 4) (oi := { dst := some 79, op := Op.move (Operand.tmp 13), type := 3, pos := "law.go:233", after := #[{ on := 1, ground := Ground.guard }], guard := some (1, false) }) (v := ?_) rfl (by kernel_rfl) (by kernel_rfl) (by kernel_rfl) (fun _ _ _ h => h) (Or.inl ⟨by rfl, ?_⟩) hHeld ?_
          rotate_left
          · intro wz hSw
            go_simp
            all_goals (with_reducible rfl)
          try simp only [Act.put, List.setIfInBounds_toArray, List.set_cons_zero, List.set_cons_succ]
          refine wpAnyH_take (i := 5) (oi := { dst := some 80, op := Op.indexAddr 34 (Operand.tmp 78) (Operand.tmp 79), type := 0, pos := "law.go:233", after := #[{ on := 3, ground := Ground.data }, { on := 4, ground := Ground.data }, { on := 1, ground := Ground.guard }], guard := some (1, false) }) (v := ?_) rfl (by kernel_rfl) (by kernel_rfl) (by kernel_rfl) (fun _ _ _ h => h) (Or.inl ⟨by rfl, ?_⟩) hHeld ?_
          rotate_left
          · intro wz hSw
            go_simp
            all_goals (with_reducible rfl)
          try simp only [Act.put, List.setIfInBounds_toArray, List.set_cons_zero, List.set_cons_succ]
          refine wpAnyH_take (i := 6) (oi := { dst := some 81, op := Op.load 46 (Operand.tmp 80), type := 46, pos := "law.go:233", after := #[{ on := 5, ground := Ground.data }, { on := 1, ground := Ground.guard }], guard := some (1, false) }) rfl (by kernel_rfl) (by kernel_rfl) (by kernel_rfl) (fun _ _ _ h => h) (yieldsIf_load_mid (by rfl) _ _ rfl p1 (o1 + k * 37) rfl (hdC y) _ (fun wz h => fun j v hv => (h.cell (p := ⟨p1, _, none⟩) hl1).trans (r1'.out j v hv)) Tryd.underlying46 rfl (hiy.out)) hHeld ?_
          try simp only [Act.put, List.setIfInBounds_toArray, List.set_cons_zero, List.set_cons_succ]
          refine wpAnyH_take (i := 7) (oi := { dst := some 82, op := Op.load 46 (Operand.tmp 5), type := 46, pos := "law.go:233", after := #[{ on := 1, ground := Ground.guard }], guard := some (1, false) }) rfl (by kernel_rfl) (by kernel_rfl) (by kernel_rfl) (fun _ _ _ h => h) (yieldsIf_load_mid (by rfl) _ _ rfl (tb + 1) 0 rfl (hdC h) _ (fun wz h => fun j v hv => (h.cell (p := ⟨tb + 1, _, none⟩) hlt5).trans (r2'.out j v hv)) Tryd.underlying46 rfl (hri.out)) hHeld ?_
          try simp only [Act.put, List.setIfInBounds_toArray, List.set_cons_zero, List.set_cons_succ]
          refine wpAnyH_take (i := 8) (oi := { dst := some 83, op := Op.binOp BinOp.eql 46 (Operand.tmp 81) (Operand.tmp 82) 46, type := 4, pos := "law.go:233", after := #[{ on := 6, ground := Ground.data }, { on := 7, ground := Ground.data }, { on := 1, ground := Ground.guard }], guard := some (1, false) }) (v := ?_) rfl (by kernel_rfl) (by kernel_rfl) (by kernel_rfl) (fun _ _ _ h => h) (Or.inl ⟨by rfl, ?_⟩) hHeld ?_
          rotate_left
          · intro wz hSw
            go_simp
            all_goals (with_reducible rfl)
          try simp only [Act.put, List.setIfInBounds_toArray, List.set_cons_zero, List.set_cons_succ]
          refine wpAnyH_take (i := 9) (oi := { dst := some 84, op := Op.pick (Operand.tmp 76) (Operand.const (Value.bool true)) (Operand.tmp 83), type := 4, pos := "law.go:233", after := #[{ on := 1, ground := Ground.data }, { on := 8, ground := Ground.data }], guard := none }) (v := ?_) rfl (by kernel_rfl) (by kernel_rfl) (by kernel_rfl) (fun _ _ _ h => h) (Or.inl ⟨by rfl, ?_⟩) hHeld ?_
          rotate_left
          · intro wz hSw
            go_simp
            all_goals (with_reducible rfl)
          try simp only [Act.put, List.setIfInBounds_toArray, List.set_cons_zero, List.set_cons_succ]
          refine wpAnyH_take (i := 10) (oi := { dst := some 11, op := Op.assign (Operand.tmp 84), type := 4, pos := "law.go:233", after := #[{ on := 9, ground := Ground.data }, { on := 1, ground := Ground.chain }, { on := 0, ground := Ground.phase }, { on := 1, ground := Ground.phase }, { on := 2, ground := Ground.phase }, { on := 3, ground := Ground.phase }, { on := 4, ground := Ground.phase }, { on := 5, ground := Ground.phase }, { on := 6, ground := Ground.phase }, { on := 7, ground := Ground.phase }, { on := 8, ground := Ground.phase }, { on := 9, ground := Ground.phase }], guard := none }) (v := ?_) rfl (by kernel_rfl) (by kernel_rfl) (by kernel_rfl) (fun _ _ _ h => h) (Or.inl ⟨by rfl, ?_⟩) hHeld ?_
          rotate_left
          · intro wz hSw
            go_simp
            all_goals (with_reducible rfl)
          try simp only [Act.put, List.setIfInBounds_toArray, List.set_cons_zero, List.set_cons_succ]
          refine wpAnyH_done (by kernel_rfl) ?_ _
          have hb2 := Lib.hid (hbr.out.trans (hHeld.mono hbr.out.size))
          clear hHeld
          go_wp2_with fail
          go_roundw
          case rel => exact ⟨k + 1, r, by omega, rfl, by go_num, hst2, hb2⟩
          case measure => simp [intOf]; omega
      · obtain rfl : yn = k := by omega
        have hq : Hid (q = x.hs.any (fun z => eqH z h)) := by show _ = _; rw [← hany.out, Go.Vw.any_end _ (Nat.le_of_eq lx.out), Bool.or_false]
        clear hany hlt
        rw [← hq.out] at hmet
        clear hq
        have a4 := hBa.out.at_ (i := 4) rfl
        go_wp2_with fail
        clear a4 b4
        have v63 : (hn : Int) ≤ 100000 := by have := bv.out; omega
        clear xlt hlt5
        go_loopw [12, 14] (fun b i wq => ∃ (m : Nat) (s : Bool), m ≤ hn ∧ b = .bool s ∧ i = .int .i64 m ∧ Hid ((s || (va.hs.drop m).any (fun y => y.no == h.no)) = va.hs.any (fun y => y.no == h.no)) ∧ Hid (Below wr.heap.size wr wq)) (fun _ i _ => hn - (intOf i).toNat)
        case atStart => exact ⟨0, false, Nat.zero_le _, rfl, rfl, rfl, Below.refl _ _⟩
        case round =>
          generalize wr = wq at *
          obtain ⟨m, s, hm, rfl, rfl, hhad, hbq⟩ := hrel
          have hst := hbq.out
          replace hBa := Lib.hid (hBa.out.below hst hBa.out.lt)
          replace hBh := Lib.hid (hBh.out.below hst hBh.out.lt)
          replace hMx := Lib.hid (hMx.out.below hst)
          replace hBx := Lib.hid (hBx.out.below hst hBx.out.lt)
          replace hbw := Lib.hid (hbw.out.trans (hst.mono hbw.out.size))
          clear hst
          have a4 := hBa.out.at_ (i := 4) rfl
          have b4 := hBx.out.at_ (i := 4) rfl
          by_cases hmlt : m < hn
          · obtain ⟨y, hy⟩ : ∃ y, va.hs[m]? = some y := ⟨_, List.getElem?_eq_getElem (by have := lv.out; omega)⟩
            have hky := Lib.hid (hkeep.out y (List.mem_of_getElem? hy))
            have hnext := Lib.hid (Go.Vw.any_step (fun y => y.no == h.no) hy)
            obtain ⟨p2, o2, rfl, hl2, oky, r2⟩ := (hVA.out.below hbw.out).hs.get hy
            have hiy := infoHd oky
            have oky' := Lib.hid oky
            have r2' := Lib.hid r2
            have m0 : (0 : Int) ≤ (m : Int) := by omega
            have m1 : (m : Int) < (hn : Int) := by omega
            clear hy r2 oky hkeep
            go_wp2_with fail
            clear a4 b4
            go_loopw [15, 16] (fun b i wv => ∃ (k : Nat) (q2 : Bool), k ≤ yn ∧ b = .bool q2 ∧ i = .int .i64 k ∧ Hid ((q2 || (x.hs.drop k).any (fun z => eqH z y)) = true) ∧ Hid (Below wq.heap.size wq wv)) (fun _ i _ => yn - (intOf i).toNat)
            case atStart => exact ⟨0, false, Nat.zero_le _, rfl, rfl, hky.out, Below.refl _ _⟩
            case round =>
              generalize wr = wv at *
              obtain ⟨k, q2, hk, rfl, rfl, hany, hbv⟩ := hrel
              have hst := hbv.out
              replace r2' := Lib.hid (show wv.rangeAt p2 (o2 + m * 37) (hdC y) from fun j v hv => (hst.cell (p := ⟨p2, _, none⟩) hl2).trans (r2'.out j v hv))
              replace hl2 := Nat.lt_of_lt_of_le hl2 hst.size
              replace hBa := Lib.hid (hBa.out.below hst hBa.out.lt)
              replace hBh := Lib.hid (hBh.out.below hst hBh.out.lt)
              replace hMx := Lib.hid (hMx.out.below hst)
              replace hBx := Lib.hid (hBx.out.below hst hBx.out.lt)
              replace hbw := Lib.hid (hbw.out.trans (hst.mono hbw.out.size))
              clear hst
              have a4 := hBa.out.at_ (i := 4) rfl
              have b4 := hBx.out.at_ (i := 4) rfl
              have alt := hBa.out.lt
              have xlt := hBx.out.lt
              have hlt5 := hBh.out.lt
              by_cases hlt : k < yn
              · cases q2 with
                | true =>
                  have k0 : (0 : Int) ≤ (k : Int) := by omega
                  have k1 : (k : Int) < (yn : Int) := by omega
                  go_upto_region 25 with fail
                  refine wp_region_held_drew (S := fun wz => Below wv.heap.size wv wz) (by kernel_rfl) ((Below.refl _ wv).drew) (fun hHeld => ?_)
                  refine wpAnyH_take (i := 0) (oi := { dst := some 99, op := Op.move (Operand.tmp 15), type := 4, pos := "law.go:238", after := #[], guard := none }) (v := ?_) rfl (by kernel_rfl) (by kernel_rfl) (by kernel_rfl) (fun _ _ _ h => h) (Or.inl ⟨by rfl, ?_⟩) hHeld ?_
                  rotate_left
                  · intro wz hSw
                    go_simp
                    all_goals (with_reducible rfl)
                  try simp only [Act.put, List.setIfInBounds_toArray, List.set_cons_zero, List.set_cons_succ]
                  refine wpAnyH_take (i := 1) (oi := { dst := some 100, op := Op.move (Operand.tmp 99), type := 4, pos := "law.go:238", after := #[{ on := 0, ground := Ground.data }], guard := none }) (v := ?_) rfl (by kernel_rfl) (by kernel_rfl) (by kernel_rfl) (fun _ _ _ h => h) (Or.inl ⟨by rfl, ?_⟩) hHeld ?_
                  rotate_left
                  · intro wz hSw
                    go_simp
                    all_goals (with_reducible rfl)
                  try simp only [Act.put, List.setIfInBounds_toArray, List.set_cons_zero, List.set_cons_succ]
                  refine wpAnyH_take (i := 2) (oi := { dst := some 101, op := Op.fieldAddr 36 (Operand.tmp 7) 4, type := 0, pos := "law.go:238", after := #[{ on := 1, ground := Ground.guard }], guard := some (1, false) }) (v := undef) rfl (by kernel_rfl) (by kernel_rfl) (by kernel_rfl) (fun _ _ _ h => h) (Or.inr ⟨by rfl, rfl⟩) hHeld ?_
                  try simp only [Act.put, List.setIfInBounds_toArray, List.set_cons_zero, List.set_cons_succ]
                  refine wpAnyH_take (i := 3) (oi := { dst := some 102, op := Op.load 34 (Operand.tmp 101), type := 34, pos := "law.go:238", after := #[{ on := 2, ground := Ground.data }, { on := 1, ground := Ground.guard }], guard := some (1, false) }) (v := undef) rfl (by kernel_rfl) (by kernel_rfl) (by kernel_rfl) (fun _ _ _ h => h) (Or.inr ⟨by rfl, rfl⟩) hHeld ?_
                  try simp only [Act.put, List.setIfInBounds_toArray, List.set_cons_zero, List.set_cons_succ]
                  refine wpAnyH_take (i := 4) (oi := { dst := some 103, op := Op.move (Operand.tmp 16), type := 3, pos := "law.go:238", after := #[{ on := 1, ground := Ground.guard }], guard := some (1, false) }) (v := undef) rfl (by kernel_rfl) (by kernel_rfl) (by kernel_rfl) (fun _ _ _ h => h) (Or.inr ⟨by rfl, rfl⟩) hHeld ?_
                  try simp only [Act.put, List.setIfInBounds_toArray, List.set_cons_zero, List.set_cons_succ]
                  refine wpAnyH_take (i := 5) (oi := { dst := some 104, op := Op.indexAddr 34 (Operand.tmp 102) (Operand.tmp 103), type := 0, pos := "law.go:238", after := #[{ on := 3, ground := Ground.data }, { on := 4, ground := Ground.data }, { on := 1, ground := Ground.guard }], guard := some (1, false) }) (v := undef) rfl (by kernel_rfl) (by kernel_rfl) (by kernel_rfl) (fun _ _ _ h => h) (Or.inr ⟨by rfl, rfl⟩) hHeld ?_
                  try simp only [Act.put, List.setIfInBounds_toArray, List.set_cons_zero, List.set_cons_succ]
                  refine wpAnyH_take (i := 6) (oi := { dst := some 105, op := Op.load 46 (Operand.tmp 104), type := 46, pos := "law.go:238", after := #[{ on := 5, ground := Ground.data }, { on := 1, ground := Ground.guard }], guard := some (1, false) }) (v := undef) rfl (by kernel_rfl) (by kernel_rfl) (by kernel_rfl) (fun _ _ _ h => h) (Or.inr ⟨by rfl, rfl⟩) hHeld ?_
                  try simp only [Act.put, List.setIfInBounds_toArray, List.set_cons_zero, List.set_cons_succ]
                  refine wpAnyH_take (i := 7) (oi := { dst := some 106, op := Op.fieldAddr 36 (Operand.tmp 3) 4, type := 0, pos := "law.go:238", after := #[{ on := 1, ground := Ground.guard }], guard := some (1, false) }) (v := undef) rfl (by kernel_rfl) (by kernel_rfl) (by kernel_rfl) (fun _ _ _ h => h) (Or.inr ⟨by rfl, rfl⟩) hHeld ?_
                  try simp only [Act.put, List.setIfInBounds_toArray, List.set_cons_zero, List.set_cons_succ]
                  refine wpAnyH_take (i := 8) (oi := { dst := some 107, op := Op.load 34 (Operand.tmp 106), type := 34, pos := "law.go:238", after := #[{ on := 7, ground := Ground.data }, { on := 1, ground := Ground.guard }], guard := some (1, false) }) (v := undef) rfl (by kernel_rfl) (by kernel_rfl) (by kernel_rfl) (fun _ _ _ h => h) (Or.inr ⟨by rfl, rfl⟩) hHeld ?_
                  try simp only [Act.put, List.setIfInBounds_toArray, List.set_cons_zero, List.set_cons_succ]
                  refine wpAnyH_take (i := 9) (oi := { dst := some 108, op := Op.move (Operand.tmp 14), type := 3, pos := "law.go:238", after := #[{ on := 1, ground := Ground.guard }], guard := some (1, false) }) (v := undef) rfl (by kernel_rfl) (by kernel_rfl) (by kernel_rfl) (fun _ _ _ h => h) (Or.inr ⟨by rfl, rfl⟩) hHeld ?_
                  try simp only [Act.put, List.setIfInBounds_toArray, List.set_cons_zero, List.set_cons_succ]
                  refine wpAnyH_take (i := 10) (oi := { dst := some 109, op := Op.indexAddr 34 (Operand.tmp 107) (Operand.tmp 108), type := 0, pos := "law.go:238", after := #[{ on := 8, ground := Ground.data }, { on := 9, ground := Ground.data }, { on := 1, ground := Ground.guard }], guard := some (1, false) }) (v := undef) rfl (by kernel_rfl) (by kernel_rfl) (by kernel_rfl) (fun _ _ _ h => h) (Or.inr ⟨by rfl, rfl⟩) hHeld ?_
                  try simp only [Act.put, List.setIfInBounds_toArray, List.set_cons_zero, List.set_cons_succ]
                  refine wpAnyH_take (i := 11) (oi := { dst := some 110, op := Op.load 46 (Operand.tmp 109), type := 46, pos := "law.go:238", after := #[{ on := 10, ground := Ground.data }, { on := 1, ground := Ground.guard }], guard := some (1, false) }) (v := undef) rfl (by kernel_rfl) (by kernel_rfl) (by kernel_rfl) (fun _ _ _ h => h) (Or.inr ⟨by rfl, rfl⟩) hHeld ?_
                  try simp only [Act.put, List.setIfInBounds_toArray, List.set_cons_zero, List.set_cons_succ]
                  refine wpAnyH_take (i := 12) (oi := { dst := some 111, op := Op.binOp BinOp.eql 46 (Operand.tmp 105) (Operand.tmp 110) 46, type := 4, pos := "law.go:238", after := #[{ on := 6, ground := Ground.data }, { on := 11, ground := Ground.data }, { on := 1, ground := Ground.guard }], guard := some (1, false) }) (v := undef) rfl (by kernel_rfl) (by kernel_rfl) (by kernel_rfl) (fun _ _ _ h => h) (Or.inr ⟨by rfl, rfl⟩) hHeld ?_
                  try simp only [Act.put, List.setIfInBounds_toArray, List.set_cons_zero, List.set_cons_succ]
                  refine wpAnyH_take (i := 13) (oi := { dst := some 112, op := Op.pick (Operand.tmp 100) (Operand.const (Value.bool true)) (Operand.tmp 111), type := 4, pos := "law.go:238", after := #[{ on := 1, ground := Ground.data }, { on := 12, ground := Ground.data }], guard := none }) (v := ?_) rfl (by kernel_rfl) (by kernel_rfl) (by kernel_rfl) (fun _ _ _ h => h) (Or.inl ⟨by rfl, ?_⟩) hHeld ?_
                  rotate_left
                  · intro wz hSw
                    go_simp
                    all_goals (with_reducible rfl)
                  try simp only [Act.put, List.setIfInBounds_toArray, List.set_cons_zero, List.set_cons_succ]
                  refine wpAnyH_take (i := 14) (oi := { dst := some 15, op := Op.assign (Operand.tmp 112), type := 4, pos := "law.go:238", after := #[{ on := 13, ground := Ground.data }, { on := 1, ground := Ground.chain }, { on := 0, ground := Ground.phase }, { on := 1, ground := Ground.phase }, { on := 2, ground := Ground.phase }, { on := 3, ground := Ground.phase }, { on := 4, ground := Ground.phase }, { on := 5, ground := Ground.phase }, { on := 6, ground := Ground.phase }, { on := 7, ground := Ground.phase }, { on := 8, ground := Ground.phase }, { on := 9, ground := Ground.phase }, { on := 10, ground := Ground.phase }, { on := 11, ground := Ground.phase }, { on := 12, ground := Ground.phase }, { on := 13, ground := Ground.phase }], guard := none }) (v := ?_) rfl (by kernel_rfl) (by kernel_rfl) (by kernel_rfl) (fun _ _ _ h => h) (Or.inl ⟨by rfl, ?_⟩) hHeld ?_
                  rotate_left
                  · intro wz hSw
                    go_simp
                    all_goals (with_reducible rfl)
                  try simp only [Act.put, List.setIfInBounds_toArray, List.set_cons_zero, List.set_cons_succ]
                  refine wpAnyH_done (by kernel_rfl) ?_ _
                  have hb2 := Lib.hid (hbv.out.trans (hHeld.mono hbv.out.size))
                  clear hHeld
                  go_wp2_with fail
                  go_roundw
                  case rel => exact ⟨k + 1, true, by omega, rfl, by go_num, Bool.true_or _, hb2⟩
                  case measure => simp [intOf]; omega
                | false =>
                  obtain ⟨z, hz⟩ : ∃ z, x.hs[k]? = some z := ⟨_, List.getElem?_eq_getElem (by have := lx.out; omega)⟩
                  obtain ⟨p1, o1, rfl, hl1, okz, r1⟩ := hMx.out.hs.get hz
                  have hiz := infoHd okz
                  have heq := fun W => eq_head okz oky'.out W
                  obtain ⟨r, hr⟩ : ∃ r, Hid (eqH z y = r) := ⟨_, rfl⟩
                  have hst2 := Lib.hid (show (r || (x.hs.drop (k + 1)).any (fun z => eqH z y)) = true by rw [← hany.out, Bool.false_or, Go.Vw.any_step _ hz, hr.out])
                  rw [hr.out] at heq
                  have k0 : (0 : Int) ≤ (k : Int) := by omega
                  have k1 : (k : Int) < (yn : Int) := by omega
                  have r1' := Lib.hid r1
                  clear hr hz r1 okz
                  go_upto_region 25 with fail
                  refine wp_region_held_drew (S := fun wz => Below wv.heap.size wv wz) (by kernel_rfl) ((Below.refl _ wv).drew) (fun hHeld => ?_)
                  refine wpAnyH_take (i := 0) (oi := { dst := some 99, op := Op.move (Operand.tmp 15), type := 4, pos := "law.go:238", after := #[], guard := none }) (v := ?_) rfl (by kernel_rfl) (by kernel_rfl) (by kernel_rfl) (fun _ _ _ h => h) (Or.inl ⟨by rfl, ?_⟩) hHeld ?_
                  rotate_left
                  · intro wz hSw
                    go_simp
                    all_goals (with_reducible rfl)
                  try simp only [Act.put, List.setIfInBounds_toArray, List.set_cons_zero, List.set_cons_succ]
                  refine wpAnyH_take (i := 1) (oi := { dst := some 100, op := Op.move (Operand.tmp 99), type := 4, pos := "law.go:238", after := #[{ on := 0, ground := Ground.data }], guard := none }) (v := ?_) rfl (by kernel_rfl) (by kernel_rfl) (by kernel_rfl) (fun _ _ _ h => h) (Or.inl ⟨by rfl, ?_⟩) hHeld ?_
                  rotate_left
                  · intro wz hSw
                    go_simp
                    all_goals (with_reducible rfl)
                  try simp only [Act.put, List.setIfInBounds_toArray, List.set_cons_zero, List.set_cons_succ]
                  refine wpAnyH_take (i := 2) (oi := { dst := some 101, op := Op.fieldAddr 36 (Operand.tmp 7) 4, type := 0, pos := "law.go:238", after := #[{ on := 1, ground := Ground.guard }], guard := some (1, false) }) (v := ?_) rfl (by kernel_rfl) (by kernel_rfl) (by kernel_rfl) (fun _ _ _ h => h) (Or.inl ⟨by rfl, ?_⟩) hHeld ?_
                  rotate_left
                  · intro wz hSw
                    go_simp
                    all_goals (with_reducible rfl)
                  try simp only [Act.put, List.setIfInBounds_toArray, List.set_cons_zero, List.set_cons_succ]
                  refine wpAnyH_take (i := 3) (oi := { dst := some 102, op := Op.load 34 (Operand.tmp 101), type := 34, pos := "law.go:238", after := #[{ on := 2, ground := Ground.data }, { on := 1, ground := Ground.guard }], guard := some (1, false) }) (v := ?_) rfl (by kernel_rfl) (by kernel_rfl) (by kernel_rfl) (fun _ _ _ h => h) (Or.inl ⟨by rfl, ?_⟩) hHeld ?_
                  rotate_left
                  · intro wz hSw
                    have q := (hSw.cell (p := ⟨g7, 4, none⟩) xlt).trans b4
                    go_simp
                    all_goals (with_reducible rfl)
                  try simp only [Act.put, List.setIfInBounds_toArray, List.set_cons_zero, List.set_cons_succ]
                  refine wpAnyH_take (i := 4) (oi := { dst := some 103, op := Op.move (Operand.tmp 16), type := 3, pos := "law.go:238", after := #[{ on := 1, ground := Ground.guard }], guard := some (1, false) }) (v := ?_) rfl (by kernel_rfl) (by kernel_rfl) (by kernel_rfl) (fun _ _ _ h => h) (Or.inl ⟨by rfl, ?_⟩) hHeld ?_
                  rotate_left
                  · intro wz hSw
                    go_simp
                    all_goals (with_reducible rfl)
                  try simp only [Act.put, List.setIfInBounds_toArray, List.set_cons_zero, List.set_cons_succ]
                  refine wpAnyH_take (i := 5) (oi := { dst := some 104, op := Op.indexAddr 34 (Operand.tmp 102) (Operand.tmp 103), type := 0, pos := "law.go:238", after := #[{ on := 3, ground := Ground.data }, { on := 4, ground := Ground.data }, { on := 1, ground := Ground.guard }], guard := some (1, false) }) (v := ?_) rfl (by kernel_rfl) (by kernel_rfl) (by kernel_rfl) (fun _ _ _ h => h) (Or.inl ⟨by rfl, ?_⟩) hHeld ?_
                  rotate_left
                  · intro wz hSw
                    go_simp
                    all_goals (with_reducible rfl)
                  try simp only [Act.put, List.setIfInBounds_toArray, List.set_cons_zero, List.set_cons_succ]
                  refine wpAnyH_take (i := 6) (oi := { dst := some 105, op := Op.load 46 (Operand.tmp 104), type := 46, pos := "law.go:238", after := #[{ on := 5, ground := Ground.data }, { on := 1, ground := Ground.guard }], guard := some (1, false) }) rfl (by kernel_rfl) (by kernel_rfl) (by kernel_rfl) (fun _ _ _ h => h) (yieldsIf_load_mid (by rfl) _ _ rfl p1 (o1 + k * 37) rfl (hdC z) _ (fun wz h => fun j v hv => (h.cell (p := ⟨p1, _, none⟩) hl1).trans (r1'.out j v hv)) Tryd.underlying46 rfl (hiz.out)) hHeld ?_
                  try simp only [Act.put, List.setIfInBounds_toArray, List.set_cons_zero, List.set_cons_succ]
                  refine wpAnyH_take (i := 7) (oi := { dst := some 106, op := Op.fieldAddr 36 (Operand.tmp 3) 4, type := 0, pos := "law.go:238", after := #[{ on := 1, ground := Ground.guard }], guard := some (1, false) }) (v := ?_) rfl (by kernel_rfl) (by kernel_rfl) (by kernel_rfl) (fun _ _ _ h => h) (Or.inl ⟨by rfl, ?_⟩) hHeld ?_
                  rotate_left
                  · intro wz hSw
                    go_simp
                    all_goals (with_reducible rfl)
                  try simp only [Act.put, List.setIfInBounds_toArray, List.set_cons_zero, List.set_cons_succ]
                  refine wpAnyH_take (i := 8) (oi := { dst := some 107, op := Op.load 34 (Operand.tmp 106), type := 34, pos := "law.go:238", after := #[{ on := 7, ground := Ground.data }, { on := 1, ground := Ground.guard }], guard := some (1, false) }) (v := ?_) rfl (by kernel_rfl) (by kernel_rfl) (by kernel_rfl) (fun _ _ _ h => h) (Or.inl ⟨by rfl, ?_⟩) hHeld ?_
                  rotate_left
                  · intro wz hSw
                    have q := (hSw.cell (p := ⟨tb, 4, none⟩) alt).trans a4
                    go_simp
                    all_goals (with_reducible rfl)
                  try simp only [Act.put, List.setIfInBounds_toArray, List.set_cons_zero, List.set_cons_succ]
                  refine wpAnyH_take (i := 9) (oi := { dst := some 108, op := Op.move (Operand.tmp 14), type := 3, pos := "law.go:238", after := #[{ on := 1, ground := Ground.guard }], guard := some (1, false) }) (v := ?_) rfl (by kernel_rfl) (by kernel_rfl) (by kernel_rfl) (fun _ _ _ h => h) (Or.inl ⟨by rfl, ?_⟩) hHeld ?_
                  rotate_left
                  · intro wz hSw
                    go_simp
                    all_goals (with_reducible rfl)
                  try simp only [Act.put, List.setIfInBounds_toArray, List.set_cons_zero, List.set_cons_succ]
                  refine wpAnyH_take (i := 10) (oi := { dst := some 109, op := Op.indexAddr 34 (Operand.tmp 107) (Operand.tmp 108), type := 0, pos := "law.go:238", after := #[{ on := 8, ground := Ground.data }, { on := 9, ground := Ground.data }, { on := 1, ground := Ground.guard }], guard := some (1, false) }) (v := ?_) rfl (by kernel_rfl) (by kernel_rfl) (by kernel_rfl) (fun _ _ _ h => h) (Or.inl ⟨by rfl, ?_⟩) hHeld ?_
                  rotate_left
                  · intro wz hSw
                    go_simp
                    all_goals (with_reducible rfl)
                  try simp only [Act.put, List.setIfInBounds_toArray, List.set_cons_zero, List.set_cons_succ]
                  refine wpAnyH_take (i := 11) (oi := { dst := some 110, op := Op.load 46 (Operand.tmp 109), type := 46, pos := "law.go:238", after := #[{ on := 10, ground := Ground.data }, { on := 1, ground := Ground.guard }], guard := some (1, false) }) rfl (by kernel_rfl) (by kernel_rfl) (by kernel_rfl) (fun _ _ _ h => h) (yieldsIf_load_mid (by rfl) _ _ rfl p2 (o2 + m * 37) rfl (hdC y) _ (fun wz h => fun j v hv => (h.cell (p := ⟨p2, _, none⟩) hl2).trans (r2'.out j v hv)) Tryd.underlying46 rfl (hiy.out)) hHeld ?_
                  try simp only [Act.put, List.setIfInBounds_toArray, List.set_cons_zero, List.set_cons_succ]
                  refine wpAnyH_take (i := 12) (oi := { dst := some 111, op := Op.binOp BinOp.eql 46 (Operand.tmp 105) (Operand.tmp 110) 46, type := 4, pos := "law.go:238", after := #[{ on := 6, ground := Ground.data }, { on := 11, ground := Ground.data }, { on := 1, ground := Ground.guard }], guard := some (1, false) }) (v := ?_) rfl (by kernel_rfl) (by kernel_rfl) (by kernel_rfl) (fun _ _ _ h => h) (Or.inl ⟨by rfl, ?_⟩) hHeld ?_
                  rotate_left
                  · intro wz hSw
                    go_simp
                    all_goals (with_reducible rfl)
                  try simp only [Act.put, List.setIfInBounds_toArray, List.set_cons_zero, List.set_cons_succ]
                  refine wpAnyH_take (i := 13) (oi := { dst := some 112, op := Op.pick (Operand.tmp 100) (Operand.const (Value.bool true)) (Operand.tmp 111), type := 4, pos := "law.go:238", after := #[{ on := 1, ground := Ground.data }, { on := 12, ground := Ground.data }], guard := none }) (v := ?_) rfl (by kernel_rfl) (by kernel_rfl) (by kernel_rfl) (fun _ _ _ h => h) (Or.inl ⟨by rfl, ?_⟩) hHeld ?_
                  rotate_left
                  · intro wz hSw
                    go_simp
                    all_goals (with_reducible rfl)
                  try simp only [Act.put, List.setIfInBounds_toArray, List.set_cons_zero, List.set_cons_succ]
                  refine wpAnyH_take (i := 14) (oi := { dst := some 15, op := Op.assign (Operand.tmp 112), type := 4, pos := "law.go:238", after := #[{ on := 13, ground := Ground.data }, { on := 1, ground := Ground.chain }, { on := 0, ground := Ground.phase }, { on := 1, ground := Ground.phase }, { on := 2, ground := Ground.phase }, { on := 3, ground := Ground.phase }, { on := 4, ground := Ground.phase }, { on := 5, ground := Ground.phase }, { on := 6, ground := Ground.phase }, { on := 7, ground := Ground.phase }, { on := 8, ground := Ground.phase }, { on := 9, ground := Ground.phase }, { on := 10, ground := Ground.phase }, { on := 11, ground := Ground.phase }, { on := 12, ground := Ground.phase }, { on := 13, ground := Ground.phase }], guard := none }) (v := ?_) rfl (by kernel_rfl) (by kernel_rfl) (by kernel_rfl) (fun _ _ _ h => h) (Or.inl ⟨by rfl, ?_⟩) hHeld ?_
                  rotate_left
                  · intro wz hSw
                    go_simp
                    all_goals (with_reducible rfl)
                  try simp only [Act.put, List.setIfInBounds_toArray, List.set_cons_zero, List.set_cons_succ]
                  refine wpAnyH_done (by kernel_rfl) ?_ _
                  have hb2 := Lib.hid (hbv.out.trans (hHeld.mono hbv.out.size))
                  clear hHeld
                  go_wp2_with fail
                  go_roundw
                  case rel => exact ⟨k + 1, r, by omega, rfl, by go_num, hst2.out, hb2⟩
                  case measure => simp [intOf]; omega
              · obtain rfl : yn = k := by omega
                obtain rfl : q2 = true := by have e := hany.out; rw [Go.Vw.any_end _ (Nat.le_of_eq lx.out), Bool.or_false] at e; exact e
                clear hany hlt
                have hbz := Lib.hid (hbq.out.trans (hbv.out.mono hbq.out.size))
                have n2 := r2'.out 2 _ (Go.Proofs.YtiionehcmoginaaDoor.hdC_2 y)
                have h2 := hBh.out.at_ (Go.Proofs.YtiionehcmoginaaDoor.hdC_2 h)
                cases s with
                | true =>
                  go_upto_region 28 with fail
                  refine wp_region_held_drew (S := fun wz => Below wv.heap.size wv wz) (by kernel_rfl) ((Below.refl _ wv).drew) (fun hHeld => ?_)
                  refine wpAnyH_take (i := 0) (oi := { dst := some 115, op := Op.move (Operand.tmp 12), type := 4, pos := "law.go:243", after := #[], guard := none }) (v := ?_) rfl (by kernel_rfl) (by kernel_rfl) (by kernel_rfl) (fun _ _ _ h => h) (Or.inl ⟨by rfl, ?_⟩) hHeld ?_
                  rotate_left
                  · intro wz hSw
                    go_simp
                    all_goals (with_reducible rfl)
                  try simp only [Act.put, List.setIfInBounds_toArray, List.set_cons_zero, List.set_cons_succ]
                  refine wpAnyH_take (i := 1) (oi := { dst := some 116, op := Op.move (Operand.tmp 115), type := 4, pos := "law.go:243", after := #[{ on := 0, ground := Ground.data }], guard := none }) (v := ?_) rfl (by kernel_rfl) (by kernel_rfl) (by kernel_rfl) (fun _ _ _ h => h) (Or.inl ⟨by rfl, ?_⟩) hHeld ?_
                  rotate_left
                  · intro wz hSw
                    go_simp
                    all_goals (with_reducible rfl)
                  try simp only [Act.put, List.setIfInBounds_toArray, List.set_cons_zero, List.set_cons_succ]
                  refine wpAnyH_take (i := 2) (oi := { dst := some 117, op := Op.fieldAddr 36 (Operand.tmp 3) 4, type := 0, pos := "law.go:243", after := #[{ on := 1, ground := Ground.guard }], guard := some (1, false) }) (v := undef) rfl (by kernel_rfl) (by kernel_rfl) (by kernel_rfl) (fun _ _ _ h => h) (Or.inr ⟨by rfl, rfl⟩) hHeld ?_
                  try simp only [Act.put, List.setIfInBounds_toArray, List.set_cons_zero, List.set_cons_succ]
                  refine wpAnyH_take (i := 3) (oi := { dst := some 118, op := Op.load 34 (Operand.tmp 117), type := 34, pos := "law.go:243", after := #[{ on := 2, ground := Ground.data }, { on := 1, ground := Ground.guard }], guard := some (1, false) }) (v := undef) rfl (by kernel_rfl) (by kernel_rfl) (by kernel_rfl) (fun _ _ _ h => h) (Or.inr ⟨by rfl, rfl⟩) hHeld ?_
                  try simp only [Act.put, List.setIfInBounds_toArray, List.set_cons_zero, List.set_cons_succ]
                  refine wpAnyH_take (i := 4) (oi := { dst := some 119, op := Op.move (Operand.tmp 14), type := 3, pos := "law.go:243", after := #[{ on := 1, ground := Ground.guard }], guard := some (1, false) }) (v := undef) rfl (by kernel_rfl) (by kernel_rfl) (by kernel_rfl) (fun _ _ _ h => h) (Or.inr ⟨by rfl, rfl⟩) hHeld ?_
                  try simp only [Act.put, List.setIfInBounds_toArray, List.set_cons_zero, List.set_cons_succ]
                  refine wpAnyH_take (i := 5) (oi := { dst := some 120, op := Op.indexAddr 34 (Operand.tmp 118) (Operand.tmp 119), type := 0, pos := "law.go:243", after := #[{ on := 3, ground := Ground.data }, { on := 4, ground := Ground.data }, { on := 1, ground := Ground.guard }], guard := some (1, false) }) (v := undef) rfl (by kernel_rfl) (by kernel_rfl) (by kernel_rfl) (fun _ _ _ h => h) (Or.inr ⟨by rfl, rfl⟩) hHeld ?_
                  try simp only [Act.put, List.setIfInBounds_toArray, List.set_cons_zero, List.set_cons_succ]
                  refine wpAnyH_take (i := 6) (oi := { dst := some 121, op := Op.fieldAddr 46 (Operand.tmp 120) 2, type := 0, pos := "law.go:243", after := #[{ on := 5, ground := Ground.data }, { on := 1, ground := Ground.guard }], guard := some (1, false) }) (v := undef) rfl (by kernel_rfl) (by kernel_rfl) (by kernel_rfl) (fun _ _ _ h => h) (Or.inr ⟨by rfl, rfl⟩) hHeld ?_
                  try simp only [Act.put, List.setIfInBounds_toArray, List.set_cons_zero, List.set_cons_succ]
                  refine wpAnyH_take (i := 7) (oi := { dst := some 122, op := Op.load 3 (Operand.tmp 121), type := 3, pos := "law.go:243", after := #[{ on := 6, ground := Ground.data }, { on := 1, ground := Ground.guard }], guard := some (1, false) }) (v := undef) rfl (by kernel_rfl) (by kernel_rfl) (by kernel_rfl) (fun _ _ _ h => h) (Or.inr ⟨by rfl, rfl⟩) hHeld ?_
                  try simp only [Act.put, List.setIfInBounds_toArray, List.set_cons_zero, List.set_cons_succ]
                  refine wpAnyH_take (i := 8) (oi := { dst := some 123, op := Op.fieldAddr 46 (Operand.tmp 5) 2, type := 0, pos := "law.go:243", after := #[{ on := 1, ground := Ground.guard }], guard := some (1, false) }) (v := undef) rfl (by kernel_rfl) (by kernel_rfl) (by kernel_rfl) (fun _ _ _ h => h) (Or.inr ⟨by rfl, rfl⟩) hHeld ?_
                  try simp only [Act.put, List.setIfInBounds_toArray, List.set_cons_zero, List.set_cons_succ]
                  refine wpAnyH_take (i := 9) (oi := { dst := some 124, op := Op.load 3 (Operand.tmp 123), type := 3, pos := "law.go:243", after := #[{ on := 8, ground := Ground.data }, { on := 1, ground := Ground.guard }], guard := some (1, false) }) (v := undef) rfl (by kernel_rfl) (by kernel_rfl) (by kernel_rfl) (fun _ _ _ h => h) (Or.inr ⟨by rfl, rfl⟩) hHeld ?_
                  try simp only [Act.put, List.setIfInBounds_toArray, List.set_cons_zero, List.set_cons_succ]
                  refine wpAnyH_take (i := 10) (oi := { dst := some 125, op := Op.binOp BinOp.eql 3 (Operand.tmp 122) (Operand.tmp 124) 3, type := 4, pos := "law.go:243", after := #[{ on := 7, ground := Ground.data }, { on := 9, ground := Ground.data }, { on := 1, ground := Ground.guard }], guard := some (1, false) }) (v := undef) rfl (by kernel_rfl) (by kernel_rfl) (by kernel_rfl) (fun _ _ _ h => h) (Or.inr ⟨by rfl, rfl⟩) hHeld ?_
                  try simp only [Act.put, List.setIfInBounds_toArray, List.set_cons_zero, List.set_cons_succ]
                  refine wpAnyH_take (i := 11) (oi := { dst := some 126, op := Op.pick (Operand.tmp 116) (Operand.const (Value.bool true)) (Operand.tmp 125), type := 4, pos := "law.go:243", after := #[{ on := 1, ground := Ground.data }, { on := 10, ground := Ground.data }], guard := none }) (v := ?_) rfl (by kernel_rfl) (by kernel_rfl) (by kernel_rfl) (fun _ _ _ h => h) (Or.inl ⟨by rfl, ?_⟩) hHeld ?_
                  rotate_left
                  · intro wz hSw
                    go_simp
                    all_goals (with_reducible rfl)
                  try simp only [Act.put, List.setIfInBounds_toArray, List.set_cons_zero, List.set_cons_succ]
                  refine wpAnyH_take (i := 12) (oi := { dst := some 12, op := Op.assign (Operand.tmp 126), type := 4, pos := "law.go:243", after := #[{ on := 11, ground := Ground.data }, { on := 1, ground := Ground.chain }, { on := 0, ground := Ground.phase }, { on := 1, ground := Ground.phase }, { on := 2, ground := Ground.phase }, { on := 3, ground := Ground.phase }, { on := 4, ground := Ground.phase }, { on := 5, ground := Ground.phase }, { on := 6, ground := Ground.phase }, { on := 7, ground := Ground.phase }, { on := 8, ground := Ground.phase }, { on := 9, ground := Ground.phase }, { on := 10, ground := Ground.phase }, { on := 11, ground := Ground.phase }], guard := none }) (v := ?_) rfl (by kernel_rfl) (by kernel_rfl) (by kernel_rfl) (fun _ _ _ h => h) (Or.inl ⟨by rfl, ?_⟩) hHeld ?_
                  rotate_left
                  · intro wz hSw
                    go_simp
                    all_goals (with_reducible rfl)
                  try simp only [Act.put, List.setIfInBounds_toArray, List.set_cons_zero, List.set_cons_succ]
                  refine wpAnyH_done (by kernel_rfl) ?_ _
                  have hb2 := Lib.hid (hbz.out.trans (hHeld.mono hbz.out.size))
                  clear hHeld
                  go_wp2_with fail
                  go_roundw
                  case rel => exact ⟨m + 1, true, by omega, rfl, by go_num, hhad.out, hb2⟩
                  case measure => simp [intOf]; omega
                | false =>
                  obtain ⟨r, hr⟩ : ∃ r, (y.no == h.no) = r := ⟨_, rfl⟩
                  have hst2 := Lib.hid (show (r || (va.hs.drop (m + 1)).any (fun y => y.no == h.no)) = va.hs.any (fun y => y.no == h.no) by rw [← hhad.out, Bool.false_or, hnext.out, hr])
                  go_upto_region 28 with fail
                  refine wp_region_held_drew (S := fun wz => Below wv.heap.size wv wz) (by kernel_rfl) ((Below.refl _ wv).drew) (fun hHeld => ?_)
                  refine wpAnyH_take (i := 0) (oi := { dst := some 115, op := Op.move (Operand.tmp 12), type := 4, pos := "law.go:243", after := #[], guard := none }) (v := ?_) rfl (by kernel_rfl) (by kernel_rfl) (by kernel_rfl) (fun _ _ _ h => h) (Or.inl ⟨by rfl, ?_⟩) hHeld ?_
                  rotate_left
                  · intro wz hSw
                    go_simp
                    all_goals (with_reducible rfl)
                  try simp only [Act.put, List.setIfInBounds_toArray, List.set_cons_zero, List.set_cons_succ]
                  refine wpAnyH_take (i := 1) (oi := { dst := some 116, op := Op.move (Operand.tmp 115), type := 4, pos := "law.go:243", after := #[{ on := 0, ground := Ground.data }], guard := none }) (v := ?_) rfl (by kernel_rfl) (by kernel_rfl) (by kernel_rfl) (fun _ _ _ h => h) (Or.inl ⟨by rfl, ?_⟩) hHeld ?_
                  rotate_left
                  · intro wz hSw
                    go_simp
                    all_goals (with_reducible rfl)
                  try simp only [Act.put, List.setIfInBounds_toArray, List.set_cons_zero, List.set_cons_succ]
                  refine wpAnyH_take (i := 2) (oi := { dst := some 117, op := Op.fieldAddr 36 (Operand.tmp 3) 4, type := 0, pos := "law.go:243", after := #[{ on := 1, ground := Ground.guard }], guard := some (1, false) }) (v := ?_) rfl (by kernel_rfl) (by kernel_rfl) (by kernel_rfl) (fun _ _ _ h => h) (Or.inl ⟨by rfl, ?_⟩) hHeld ?_
                  rotate_left
                  · intro wz hSw
                    go_simp
                    all_goals (with_reducible rfl)
                  try simp only [Act.put, List.setIfInBounds_toArray, List.set_cons_zero, List.set_cons_succ]
                  refine wpAnyH_take (i := 3) (oi := { dst := some 118, op := Op.load 34 (Operand.tmp 117), type := 34, pos := "law.go:243", after := #[{ on := 2, ground := Ground.data }, { on := 1, ground := Ground.guard }], guard := some (1, false) }) (v := ?_) rfl (by kernel_rfl) (by kernel_rfl) (by kernel_rfl) (fun _ _ _ h => h) (Or.inl ⟨by rfl, ?_⟩) hHeld ?_
                  rotate_left
                  · intro wz hSw
                    have q := (hSw.cell (p := ⟨tb, 4, none⟩) alt).trans a4
                    go_simp
                    all_goals (with_reducible rfl)
                  try simp only [Act.put, List.setIfInBounds_toArray, List.set_cons_zero, List.set_cons_succ]
                  refine wpAnyH_take (i := 4) (oi := { dst := some 119, op := Op.move (Operand.tmp 14), type := 3, pos := "law.go:243", after := #[{ on := 1, ground := Ground.guard }], guard := some (1, false) }) (v := ?_) rfl (by kernel_rfl) (by kernel_rfl) (by kernel_rfl) (fun _ _ _ h => h) (Or.inl ⟨by rfl, ?_⟩) hHeld ?_
                  rotate_left
                  · intro wz hSw
                    go_simp
                    all_goals (with_reducible rfl)
                  try simp only [Act.put, List.setIfInBounds_toArray, List.set_cons_zero, List.set_cons_succ]
                  refine wpAnyH_take (i := 5) (oi := { dst := some 120, op := Op.indexAddr 34 (Operand.tmp 118) (Operand.tmp 119), type := 0, pos := "law.go:243", after := #[{ on := 3, ground := Ground.data }, { on := 4, ground := Ground.data }, { on := 1, ground := Ground.guard }], guard := some (1, false) }) (v := ?_) rfl (by kernel_rfl) (by kernel_rfl) (by kernel_rfl) (fun _ _ _ h => h) (Or.inl ⟨by rfl, ?_⟩) hHeld ?_
                  rotate_left
                  · intro wz hSw
                    go_simp
                    all_goals (with_reducible rfl)
                  try simp only [Act.put, List.setIfInBounds_toArray, List.set_cons_zero, List.set_cons_succ]
                  refine wpAnyH_take (i := 6) (oi := { dst := some 121, op := Op.fieldAddr 46 (Operand.tmp 120) 2, type := 0, pos := "law.go:243", after := #[{ on := 5, ground := Ground.data }, { on := 1, ground := Ground.guard }], guard := some (1, false) }) (v := ?_) rfl (by kernel_rfl) (by kernel_rfl) (by kernel_rfl) (fun _ _ _ h => h) (Or.inl ⟨by rfl, ?_⟩) hHeld ?_
                  rotate_left
                  · intro wz hSw
                    go_simp
                    all_goals (with_reducible rfl)
                  try simp only [Act.put, List.setIfInBounds_toArray, List.set_cons_zero, List.set_cons_succ]
                  refine wpAnyH_take (i := 7) (oi := { dst := some 122, op := Op.load 3 (Operand.tmp 121), type := 3, pos := "law.go:243", after := #[{ on := 6, ground := Ground.data }, { on := 1, ground := Ground.guard }], guard := some (1, false) }) (v := ?_) rfl (by kernel_rfl) (by kernel_rfl) (by kernel_rfl) (fun _ _ _ h => h) (Or.inl ⟨by rfl, ?_⟩) hHeld ?_
                  rotate_left
                  · intro wz hSw
                    have q := (hSw.cell (p := ⟨p2, _, none⟩) hl2).trans n2
                    go_simp
                    all_goals (with_reducible rfl)
                  try simp only [Act.put, List.setIfInBounds_toArray, List.set_cons_zero, List.set_cons_succ]
                  refine wpAnyH_take (i := 8) (oi := { dst := some 123, op := Op.fieldAddr 46 (Operand.tmp 5) 2, type := 0, pos := "law.go:243", after := #[{ on := 1, ground := Ground.guard }], guard := some (1, false) }) (v := ?_) rfl (by kernel_rfl) (by kernel_rfl) (by kernel_rfl) (fun _ _ _ h => h) (Or.inl ⟨by rfl, ?_⟩) hHeld ?_
                  rotate_left
                  · intro wz hSw
                    go_simp
                    all_goals (with_reducible rfl)
                  try simp only [Act.put, List.setIfInBounds_toArray, List.set_cons_zero, List.set_cons_succ]
                  refine wpAnyH_take (i := 9) (oi := { dst := some 124, op := Op.load 3 (Operand.tmp 123), type := 3, pos := "law.go:243", after := #[{ on := 8, ground := Ground.data }, { on := 1, ground := Ground.guard }], guard := some (1, false) }) (v := ?_) rfl (by kernel_rfl) (by kernel_rfl) (by kernel_rfl) (fun _ _ _ h => h) (Or.inl ⟨by rfl, ?_⟩) hHeld ?_
                  rotate_left
                  · intro wz hSw
                    have q := (hSw.cell (p := ⟨tb + 1, 2, none⟩) hlt5).trans h2
                    go_simp
                    all_goals (with_reducible rfl)
                  try simp only [Act.put, List.setIfInBounds_toArray, List.set_cons_zero, List.set_cons_succ]
                  refine wpAnyH_take (i := 10) (oi := { dst := some 125, op := Op.binOp BinOp.eql 3 (Operand.tmp 122) (Operand.tmp 124) 3, type := 4, pos := "law.go:243", after := #[{ on := 7, ground := Ground.data }, { on := 9, ground := Ground.data }, { on := 1, ground := Ground.guard }], guard := some (1, false) }) (v := ?_) rfl (by kernel_rfl) (by kernel_rfl) (by kernel_rfl) (fun _ _ _ h => h) (Or.inl ⟨by rfl, ?_⟩) hHeld ?_
                  rotate_left
                  · intro wz hSw
                    go_simp
                    all_goals (with_reducible rfl)
                  try simp only [Act.put, List.setIfInBounds_toArray, List.set_cons_zero, List.set_cons_succ]
                  refine wpAnyH_take (i := 11) (oi := { dst := some 126, op := Op.pick (Operand.tmp 116) (Operand.const (Value.bool true)) (Operand.tmp 125), type := 4, pos := "law.go:243", after := #[{ on := 1, ground := Ground.data }, { on := 10, ground := Ground.data }], guard := none }) (v := ?_) rfl (by kernel_rfl) (by kernel_rfl) (by kernel_rfl) (fun _ _ _ h => h) (Or.inl ⟨by rfl, ?_⟩) hHeld ?_
                  rotate_left
                  · intro wz hSw
                    go_simp
                    all_goals (with_reducible rfl)
                  try simp only [Act.put, List.setIfInBounds_toArray, List.set_cons_zero, List.set_cons_succ]
                  refine wpAnyH_take (i := 12) (oi := { dst := some 12, op := Op.assign (Operand.tmp 126), type := 4, pos := "law.go:243", after := #[{ on := 11, ground := Ground.data }, { on := 1, ground := Ground.chain }, { on := 0, ground := Ground.phase }, { on := 1, ground := Ground.phase }, { on := 2, ground := Ground.phase }, { on := 3, ground := Ground.phase }, { on := 4, ground := Ground.phase }, { on := 5, ground := Ground.phase }, { on := 6, ground := Ground.phase }, { on := 7, ground := Ground.phase }, { on := 8, ground := Ground.phase }, { on := 9, ground := Ground.phase }, { on := 10, ground := Ground.phase }, { on := 11, ground := Ground.phase }], guard := none }) (v := ?_) rfl (by kernel_rfl) (by kernel_rfl) (by kernel_rfl) (fun _ _ _ h => h) (Or.inl ⟨by rfl, ?_⟩) hHeld ?_
                  rotate_left
                  · intro wz hSw
                    go_simp
                    all_goals (with_reducible rfl)
                  try simp only [Act.put, List.setIfInBounds_toArray, List.set_cons_zero, List.set_cons_succ]
                  refine wpAnyH_done (by kernel_rfl) ?_ _
                  have hb2 := Lib.hid (hbz.out.trans (hHeld.mono hbz.out.size))
                  clear hHeld
                  go_wp2_with fail
                  go_roundw
                  case rel => exact ⟨m + 1, r, by omega, rfl, by go_num, hst2.out, hb2⟩
                  case measure => simp [intOf]; omega
          · obtain rfl : hn = m := by omega
            have hs2 : Hid (s = va.hs.any (fun y => y.no == h.no)) := by show _ = _; rw [← hhad.out, Go.Vw.any_end _ (Nat.le_of_eq lv.out), Bool.or_false]
            rw [← hs2.out] at hmet
            have hqs : (q || s) = true := hmet.out
            clear hs2 hhad hmet
            have hf := Lib.hid (hfin.out _ hbw.out)
            cases q with
            | true =>
              go_wp2_with fail
              exact hf.out
            | false =>
              obtain rfl : s = true := hqs
              go_wp2_with fail
              exact hf.out
end Go.Proofs.YtiionehcmoginaaDoor
namespace Go.Proofs.YtiionehcmoginaaDoor.lawRemember
open Go.ChangeShapes Go.WideShapes Go.ChangeAt Go.RowKit Go.Mem
open Go.Proofs.YtiionehcmoginaaDoor

set_option maxRecDepth 100000 in
theorem lifted (os : Os) (started : os.Started) (H : Type) (enc : TypeId × Value → H) :
    ReturnsInHanded {} Tryd.checked os 6 .any (fun w args => (Rows.viewsRememberSpec.pre enc Tryd.prog Tryd.f6 [] false w args ∧ laidMetH Tryd.prog laid2 w) ∧ sizedMet enc Tryd.prog Tryd.f6 (OpenSpec.ofChange Rows.viewsRememberSpec) false w args)
      (Rows.viewsRememberSpec.post enc Tryd.prog Tryd.f6 false true false false) := by
  refine returnsInHanded_of_change_and (C := Tryd.checked) (X := fun w _ => laidMetH Tryd.prog laid2 w) (fun _ _ _ hh h => h.of_heap hh) own started (by kernel_rfl) Tryd.func6
    (ChangeSpec.witness_shaped (enc := enc) (C := Tryd.checked) (os := os) (X := fun w _ => laidMetH Tryd.prog laid2 w) false (World.doorLaid Tryd.prog 400 os) #[.agg (vwC ⟨0, 0, 0, [], []⟩ none 0 0 none 0 0).toArray, .slice none 0 0, .agg (hdC Go.Vw.zeroH).toArray] 8 rfl (World.shaped_of_RefB (by kernel_rfl) (by kernel_rfl)) (by kernel_rfl) (by kernel_rfl) (by kernel_rfl) (door_met os _)) ?_
  intro W base args ds gs before hval0 hW _ _ hL _
  have hval : ∀ (j : Nat) t v, Tryd.f6.params[j]? = some t → args[j]? = some v → Value.okWide Tryd.prog W .any base t v := hval0
  have hW' := hW
  obtain ⟨p, q, hA0, hV, rfl, hfz, hnd⟩ := hW
  have hA : DataW.TrodAll enc Tryd.prog W 0 (fun _ => true) true Tryd.f6.params.toList args.toList ds p := hA0
  rw [Tryd.params6] at hA hval
  obtain ⟨v0, vs0, d0, ds0, p0, q0, hargs, rfl, rfl, h0, r0⟩ := trodAll_cons hA
  obtain ⟨v1, vs1, d1, ds1, p1, q1, rfl, rfl, rfl, h1, r1⟩ := trodAll_cons r0
  obtain ⟨v2, vs2, d2, ds2, p2, q2, rfl, rfl, rfl, h2, r2⟩ := trodAll_cons r1
  obtain ⟨rfl, rfl, rfl⟩ := trodAll_nil r2
  obtain rfl : args = #[v0, v1, v2] := by cases args; simp_all
  obtain ⟨rfl, rfl⟩ := trodVars_none hV
  have lt0 : ∀ x ∈ p0, x.block < W.heap.size := by obtain ⟨m, hm⟩ := h0; exact DataW.trod_lt m _ _ _ hm
  have lt1 : ∀ x ∈ p1, x.block < W.heap.size := by obtain ⟨m, hm⟩ := h1; exact DataW.trod_lt m _ _ _ hm
  have lt2 : ∀ x ∈ p2, x.block < W.heap.size := by obtain ⟨m, hm⟩ := h2; exact DataW.trod_lt m _ _ _ hm
  have k0' := h0
  have k1' := h1
  have k2' := h2
  obtain ⟨cs0, rfl, _⟩ := okWide_struct Tryd.underlying36 (hval 0 36 v0 rfl rfl)
  obtain ⟨m0, hm0⟩ := h0
  obtain ⟨y0, da0, dn0, dc0, ha0, hn0, hc0, e0, S0⟩ := open_view (cs := cs0.toList) (by simpa [Value.cells] using hm0)
  obtain rfl : cs0 = (vwC y0 da0 dn0 dc0 ha0 hn0 hc0).toArray := by rw [← e0]
  clear hm0 e0
  obtain ⟨a1, n1, c1, rfl⟩ := okWide_slice Tryd.underlying31 (hval 1 31 v1 rfl rfl)
  obtain ⟨m1, hm1⟩ := h1
  obtain ⟨_, _, _, l1, e1, S1⟩ := open_ents (cs := [.slice a1 n1 c1]) (by simpa [Value.cells] using hm1)
  simp only [List.cons.injEq, Value.slice.injEq, and_true] at e1
  obtain ⟨rfl, rfl, rfl⟩ := e1
  clear hm1
  obtain ⟨cs2, rfl, _⟩ := okWide_struct Tryd.underlying46 (hval 2 46 v2 rfl rfl)
  obtain ⟨m2, hm2⟩ := h2
  obtain ⟨y2, ok2, e2⟩ := open_hd (cs := cs2.toList) (by simpa [Value.cells] using hm2)
  obtain rfl : cs2 = (hdC y2).toArray := by rw [← e2]
  clear hm2 e2
  have hT := tabs_of_laid hL
  clear hA0 hval0
  refine (remember_walk y0 da0 dn0 dc0 ha0 hn0 hc0 a1 n1 c1 l1 y2 ok2 W hT S0 S1).mono fun e W' ⟨he, bel⟩ => ?_
  subst he
  exact ⟨_, rfl, _, _, _, [], _, [], hW', trodAll_mk1 (shut_bool Tryd.underlying4 _),
    (trodAll_cons_mk (Below.trod laidOut (by kernel_rfl) (of_decide_eq_true (by kernel_rfl)) k0' bel lt0) (trodAll_cons_mk (Below.trod laidOut (by kernel_rfl) (of_decide_eq_true (by kernel_rfl)) k1' bel lt1) (trodAll_cons_mk (Below.trod laidOut (by kernel_rfl) (of_decide_eq_true (by kernel_rfl)) k2' bel lt2) trodAll_mk0))), rfl, bel.frame _, fun h => by cases h⟩

theorem over : Rows.ViewsRememberSaid :=
  OpenClaim.holds_of_wide 6 Tryd.f6 rfl rfl rfl rfl rfl rfl rfl ⟨rfl, rfl, rfl, rfl, rfl⟩ rfl rfl rfl rfl rfl (by kernel_rfl) Tryd.func6 (by kernel_rfl)
    (of_decide_eq_true (by kernel_rfl)) (by unfold Func.isWrapper; first | (rw [if_pos (by decide +kernel)]; kernel_rfl) | (rw [if_neg (by decide +kernel)]; exact ⟨rfl, rfl⟩))
    (fun os started H enc _ => lifted os started H enc)

theorem proved : Rows.ViewsRememberCardSaid :=
  Claim7.holds_tied_plain_at .later [] [.data, .data] true (true, "608cd0720f91ff3ad574156353b6f30fe2f73723675f14731deb4c629b150d9f") false
    over (fun _ h => by cases h) (by kernel_rfl) (fun _ h => by cases h) viewsRemember_row_tie rfl ⟨rfl, rfl⟩ (by kernel_rfl) rfl
    (fun f fn hf hfn => by
      obtain rfl : f = 6 := Option.some.inj ((show Tryd.prog.funcNamed "chartroom/chartroomlaw32.ViewsRemember" = some 6 by kernel_rfl).symm.trans hf) |>.symm
      obtain rfl : fn = Tryd.f6 := (Option.some.inj (Tryd.func6.symm.trans hfn)).symm
      exact ⟨by kernel_rfl, fun j t ht => by
        rw [Tryd.params6] at ht
        have hm : t ∈ [36, 31, 46] := by simpa using Array.mem_of_getElem? ht
        have hall : ([36, 31, 46].all fun u => !Tryd.prog.wantsStandIn u) = true := by kernel_rfl
        exact (show Tryd.prog.wantsStandIn t = false by simpa using List.all_eq_true.1 hall t hm)⟩)
    (by kernel_rfl)
#print axioms proved
end Go.Proofs.YtiionehcmoginaaDoor.lawRemember

