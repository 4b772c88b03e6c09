/- store.New, Check, open -/
import Derived.Test.YtnonfdcbnkdmcaaGreatDoorFin
import Derived.StillTailTactics
namespace Go.Proofs.YtnonfdcbnkdmcaaGreatDoor
open Go.RowKit Go.Mem
open Go.Sto (Ent Lg St)

def stV (id priv : Int) : Value := .agg #[.int .i64 id, .int .i64 priv, .slice none 0 0]
def NewPost (id priv : Int) (w : World) (e : Ending) (w' : World) : Prop := e = .returned (.tuple #[if Sto.newE id priv = 0 then stV id priv else stV 0 0, .int .i64 (Sto.newE id priv)]) ∧ Below w.heap.size w w'

theorem new_ret {W : World} {tb : Nat} {x0 x1 x2 : Value} {e : Int} (hB : Blk W tb 24 [x0, x1, x2]) {a : Act} (hp : a.tmps.getD 4 undef = .pointer (some ⟨tb, 0, none⟩)) (hq : a.tmps.getD 5 undef = .int .i64 e) (hd : a.defers = []) {Post : Ending → World → Prop} (hP : Post (.returned (.tuple #[.agg #[x0, x1, x2], .int .i64 e])) W) :
 bodyPost Tryz.prog Tryz.f34 Post .ret a W := by
 have c0 := hB.at_ (i := 0) rfl
 have c1 := hB.at_ (i := 1) rfl
 have c2 := hB.at_ (i := 2) rfl
 refine bodyPost_ret (v := .tuple #[.agg #[x0, x1, x2], .int .i64 e]) ?_ hd hP
 rw [results_cell_tmp rfl, hp, hq]
 simp [go_sem, c0, c1, c2]

set_option maxRecDepth 20000 in
set_option maxHeartbeats 1000000 in
theorem New_any (id priv : Int) (w : World) : Calls Tryz.prog 34 #[.int .i64 id, .int .i64 priv] w (NewPost id priv w) := by
 obtain ⟨tb, htb⟩ : ∃ tb, Hid (w.heap.size = tb) := ⟨_, rfl⟩
 have hB0 : Hid (Blk (w.alloc (.cells #[.int .i64 0, .int .i64 0, .slice none 0 0] 24)) tb 24 [.int .i64 0, .int .i64 0, .slice none 0 0]) := by rw [← htb.out]; exact Blk.new w _ _
 have hb0 : Hid (Below w.heap.size w (w.alloc (.cells #[.int .i64 0, .int .i64 0, .slice none 0 0] 24))) := (Below.refl _ w).alloc (Nat.le_refl _) _
 by_cases h0 : 0 ≤ id
 · by_cases h1 : id < 4
   · cases hk : Sto.keyB priv with
     | true =>
      have hne : Sto.newE id priv = 0 := by simp [Sto.newE, h0, h1, hk]
      have hp := Lib.hid (fun W => Public_any priv W)
      rw [publicK_t (show keyOk priv = true from hk)] at hp
      generalize pubB 4 priv = pb at *
      go_enter Tryz.func34, Tryz.ntmps34
      go_wp2_with fail
      rw [htb.out]
      generalize World.alloc w _ = W1 at *
      refine (hp.out _).mono ?_
      rintro e w2 ⟨rfl, hb2⟩
      have hB2 := hB0.out.below hb2 hB0.out.lt
      have c0 := hB2.at_ (i := 0) rfl
      have c1 := hB2.at_ (i := 1) rfl
      have c2 := hB2.at_ (i := 2) rfl
      have f0 := hB2.frozen 0
      have f1 := hB2.frozen 1
      have f2 := hB2.frozen 2
      have hb2' := Lib.hid (hb0.out.trans (hb2.mono hb0.out.size))
      have hB2' := Lib.hid hB2
      clear hB2 hb2 hp hb0 hB0
      go_wp2_with fail
      refine new_ret (copied_set hB2'.out _ _ _) rfl rfl rfl ⟨by rw [hne]; rfl, ?_⟩
      have hle := Nat.le_of_eq htb.out
      exact ((hb2'.out.setCell hle _).setCell hle _).setCell hle _
     | false =>
      have hne : Sto.newE id priv = 50 := by simp [Sto.newE, h0, h1, hk]
      have hp := Lib.hid (fun W => Public_any priv W)
      rw [publicK_f (show keyOk priv = false from hk)] at hp
      go_enter Tryz.func34, Tryz.ntmps34
      go_wp2_with fail
      rw [htb.out]
      generalize World.alloc w _ = W1 at *
      refine (hp.out _).mono ?_
      rintro e w2 ⟨rfl, hb2⟩
      have hB2 := hB0.out.below hb2 hB0.out.lt
      have c0 := hB2.at_ (i := 0) rfl
      have c1 := hB2.at_ (i := 1) rfl
      have c2 := hB2.at_ (i := 2) rfl
      have f0 := hB2.frozen 0
      have f1 := hB2.frozen 1
      have f2 := hB2.frozen 2
      have hb2' := Lib.hid (hb0.out.trans (hb2.mono hb0.out.size))
      have hB2' := Lib.hid hB2
      clear hB2 hb2 hp hb0 hB0
      go_wp2_with fail
      refine new_ret (copied_set hB2'.out _ _ _) rfl rfl rfl ⟨by rw [hne]; rfl, ?_⟩
      have hle := Nat.le_of_eq htb.out
      exact ((hb2'.out.setCell hle _).setCell hle _).setCell hle _
   · have hne : Sto.newE id priv = 300 := by simp [Sto.newE, h1]
     go_enter Tryz.func34, Tryz.ntmps34
     go_wp2_with fail
     rw [htb.out]
     exact new_ret hB0.out rfl rfl rfl ⟨by rw [hne]; rfl, hb0.out⟩
 · have hne : Sto.newE id priv = 300 := by simp [Sto.newE, h0]
   go_enter Tryz.func34, Tryz.ntmps34
   go_wp2_with fail
   rw [htb.out]
   exact new_ret hB0.out rfl rfl rfl ⟨by rw [hne]; rfl, hb0.out⟩

def PrevF (L : List Lg) (k : Nat) (p : Int) : Prop := (k = 0 ∧ p = -1) ∨ ∃ j x, k = j + 1 ∧ L[j]? = some x ∧ p = x.folder

structure SG (P : Program) (ops : Array Oper) (w : World) (Q : Act → Prop) (l : List Oper) (a : Act) : Prop where
 out : wpStill P ops w Q l a
section
variable {P : Program} {ops : Array Oper} {w : World} {Q : Act → Prop} {a : Act} {o : Oper} {rest : List Oper}
theorem SG.want (hw : Region.wanted o (yielded ops a.tmps) = true) (h : ∀ K : Act → Prop, (∀ a, SG P ops w Q rest a → K a) → o.still P a w K) : SG P ops w Q (o :: rest) a := ⟨by
 unfold wpStill
 rw [hw]
 exact h _ (fun _ h => h.out)⟩
theorem SG.skip (hw : Region.wanted o (yielded ops a.tmps) = false) (h : SG P ops w Q rest (a.put o.dst undef)) : SG P ops w Q (o :: rest) a := ⟨by
 unfold wpStill
 rw [hw]
 exact h.out⟩
theorem SG.done (h : Q a) : SG P ops w Q [] a := ⟨h⟩
end

set_option maxRecDepth 20000 in
set_option maxHeartbeats 2000000 in
theorem Check_any (K : Nat → Prop) (a : Option Addr) (n c : Nat) (s : St) (w : World) (HT : Tabs w) (H : SV K w a n c s) :
 Calls Tryz.prog 41 #[.agg #[.int .i64 s.id, .int .i64 s.priv, .slice a n c]] w (RetI (Sto.chkS s) w) := by
 have hlen := H.ls.rs.len
 have hbd := H.ls.bd
 have n63 : (n : Int) ≤ 100000 := by omega
 have HT' := Lib.hid HT; have H' := Lib.hid H
 clear HT H
 obtain ⟨sb, hsb⟩ : ∃ sb, Hid (w.heap.size = sb) := ⟨_, rfl⟩
 have hnw := Lib.hid (fun W => New_any s.id s.priv W)
 by_cases hne : Sto.newE s.id s.priv = 0
 · have hpost : NewPost s.id s.priv = fun w e w' => e = .returned (.tuple #[stV s.id s.priv, .int .i64 0]) ∧ Below w.heap.size w w' := by funext w e w'; simp [NewPost, hne]
   rw [hpost] at hnw
   have hchkt : Hid (Sto.logsB (-1) s.logs = true → Sto.chkS s = 0) := fun hq => by simp [Sto.chkS, hne, hq]
   have hchkf : Hid (Sto.logsB (-1) s.logs = false → Sto.chkS s = 300) := fun hq => by simp [Sto.chkS, hne, hq]
   obtain ⟨X, hX⟩ : ∃ X, Hid (Sto.chkS s = X) := ⟨_, rfl⟩
   rw [hX.out] at hchkt hchkf ⊢
   clear hpost
   unfold stV at hnw
   go_enter Tryz.func41, Tryz.ntmps41
   go_wp2_with fail
   rw [hsb.out]
   have hB1 : Hid (Blk (w.alloc (.cells #[.int .i64 s.id, .int .i64 s.priv, .slice a n c] 24)) sb 24 (stC s a n c)) := by rw [← hsb.out]; exact Blk.new w _ (stC s a n c)
   have hb1 : Hid (Below w.heap.size w (w.alloc (.cells #[.int .i64 s.id, .int .i64 s.priv, .slice a n c] 24))) := (Below.refl _ w).alloc (Nat.le_refl _) _
   generalize World.alloc w _ = W1 at *
   refine (hnw.out _).mono ?_
   rintro e w2 ⟨rfl, hb2⟩
   have hB2 : ∀ o, (w2.alloc o).cell? ⟨sb, 2, none⟩ = some (.slice a n c) := fun o => ((hB1.out.below hb2 hB1.out.lt).alloc o).at_ (i := 2) rfl
   have hB2' := Lib.hid (hB1.out.below hb2 hB1.out.lt)
   have hb2' := Lib.hid (hb1.out.trans (hb2.mono hb1.out.size))
   clear hb2 hb1 hB1 hnw
   go_wp2_with fail
   have hB3 : Hid (Blk (w2.alloc (.cells #[.int .i64 s.id, .int .i64 s.priv, .slice none 0 0] 24)) sb 24 (stC s a n c)) := hB2'.out.alloc _
   have hb3 : Hid (Below w.heap.size w (w2.alloc (.cells #[.int .i64 s.id, .int .i64 s.priv, .slice none 0 0] 24))) := hb2'.out.alloc hb2'.out.size _
   clear hB2 hB2' hb2'
   generalize World.alloc w2 _ = w3 at *
   go_loopw [20] (fun i wr => ∃ (k : Nat) (p : Int), k ≤ n ∧ i = .int .i64 k ∧ Hid (PrevF s.logs k p) ∧ Hid (Sto.logsB (-1) s.logs = Sto.logsB p (s.logs.drop k)) ∧ Hid (Blk wr sb 24 (stC s a n c)) ∧ Hid (Below w.heap.size w wr)) (fun i _ => n - (intOf i).toNat)
   case atStart => exact ⟨0, -1, Nat.zero_le _, rfl, .inl ⟨rfl, rfl⟩, rfl, hB3, hb3⟩
   case round =>
    obtain ⟨k, p, hk, rfl, hp, hl, hB, hb⟩ := hrel
    clear hB3 hb3
    by_cases hlt : k < n
    · have hkl : k < s.logs.length := by omega
      obtain ⟨x, hx⟩ : ∃ x, s.logs[k]? = some x := ⟨_, List.getElem?_eq_getElem hkl⟩
      have hl' := hl.out
      rw [List.drop_eq_getElem_cons hkl, (List.getElem?_eq_some_iff.1 hx).2] at hl'
      obtain ⟨b, off, ea, en, ec, rfl, hbl, _, hfo, hes, c0, c1⟩ := (H'.out.below hb.out).ls.cells hx
      obtain ⟨g, hg⟩ : ∃ g, Hid (wr.heap.size = g) := ⟨_, rfl⟩
      obtain ⟨W2, hWW⟩ : ∃ W2, Hid (wr.alloc (.cells #[.int .i64 x.folder, .slice ea en ec] 121) = W2) := ⟨_, rfl⟩
      have hW2 : Below wr.heap.size wr W2 := by rw [← hWW.out]; exact (Below.refl _ _).alloc (Nat.le_refl _) _
      have hG : Blk W2 g 121 [.int .i64 x.folder, .slice ea en ec] := by rw [← hWW.out, ← hg.out]; exact Blk.new wr 121 [.int .i64 x.folder, .slice ea en ec]
      have g0 := hG.at_ (i := 0) rfl
      have g1 := hG.at_ (i := 1) rfl
      have hBW : Blk W2 sb 24 (stC s (some ⟨b, off, none⟩) n c) := hB.out.below hW2 hB.out.lt
      have s2 := hBW.at_ (i := 2) rfl
      have hbW := Lib.hid (hb.out.trans (hW2.mono hb.out.size))
      have hfol := Lib.hid (fun W => isFolder_any x.folder W)
      have hfi := Lib.hid (fun W (hW : Below W2.heap.size W2 W) => fine_any K ea en ec x.es W (HT'.out.below (hbW.out.trans (hW.mono hbW.out.size))) ((hes.below hW2).below hW))
      have hsbl := hBW.lt
      have hgl := hG.lt
      have hbl2 : b < W2.heap.size := Nat.lt_of_lt_of_le hbl hW2.size
      have hBW' := Lib.hid hBW
      have hl2 := Lib.hid hl'
      have k0 : (0 : Int) ≤ (k : Int) := by omega
      have k1 : (k : Int) < (n : Int) := by omega
      clear hes hBW hG hl' hl hB hb
      cases hff : Sto.folderB x.folder with
      | false =>
       rw [hff] at hfol
       have hbad : Hid (∀ m, RetI X w (.returned (.int .i64 300)) (W2.drewN m)) := fun m => ⟨by rw [hchkf.out (by rw [hl2.out]; simp [Sto.logsB, hff])], hbW.out.trans (below_drewN _ _ _)⟩
       go_wp2_with fail
       rw [hg.out, hWW.out]
       go_quiet (first | (go_at_call 91; exact Calls.quiet_of_same (hfol.out _)))
       go_wp2_with fail
       go_ret
       exact hbad.out _
      | true =>
       rw [hff] at hfol
       have hlc : ∀ q : Bool, decide (p < x.folder) = q → Sto.fineB x.es = false ∨ q = false → Hid (Sto.logsB (-1) s.logs = false) := fun q hq hh => by
        show _ = _
        rw [hl2.out]
        unfold Sto.logsB
        rcases hh with hh | hh
        · simp [hh]
        · simp [hq, hh]
       have hgo : Sto.fineB x.es = true → p < x.folder → Hid (Sto.logsB (-1) s.logs = Sto.logsB x.folder (s.logs.drop (k + 1))) := fun h1 h2 => by
        show _ = _
        rw [hl2.out]
        simp [Sto.logsB, h1, h2, hff]
       have hnp : Hid (PrevF s.logs (k + 1) x.folder) := .inr ⟨k, x, rfl, hx, rfl⟩
       rcases hp.out with ⟨hk0, rfl⟩ | ⟨j, y, hkj, hy, rfl⟩
       · subst hk0
         have d0 : wr.cell? ⟨b, off, none⟩ = some (.int .i64 x.folder) := by simpa using c0
         have d1 : wr.cell? ⟨b, off + 1, none⟩ = some (.slice ea en ec) := by simpa using c1
         clear c0 c1
         have hpl : (-1 : Int) < x.folder := by
          have := hff
          unfold Sto.folderB at this
          rw [decide_eq_true_iff] at this
          omega
         cases hfn : Sto.fineB x.es with
         | false =>
          have hbad : Hid (∀ W, Below W2.heap.size W2 W → RetI X w (.returned (.int .i64 300)) W) := fun W hW => ⟨by rw [hchkf.out (hlc _ rfl (.inl hfn)).out], hbW.out.trans (hW.mono hbW.out.size)⟩
          rw [hfn] at hfi
          clear hlc hgo
          go_wp2_with fail
          rw [hg.out, hWW.out]
          refine wp_region_still_tail 23 (by kernel_rfl) (by kernel_rfl) ?_
          simp only [List.take_succ_cons, List.take_zero, List.drop_succ_cons, List.drop_zero]
          refine SG.out ?_
          generalize hQc : (fun a' => wpList _ _ _ _ a' _) = Qc
          iterate 2 (refine SG.want (by kernel_rfl) (fun Kq hKq => ?_); go_simp; refine hKq _ ?_; clear hKq Kq)
          (refine SG.want (by kernel_rfl) (fun Kq hKq => ?_); go_simp; refine ⟨_, hfol.out _, hKq _ ?_⟩; clear hKq Kq)
          iterate 5 (refine SG.want (by kernel_rfl) (fun Kq hKq => ?_); go_simp; refine hKq _ ?_; clear hKq Kq)
          iterate 10 (refine SG.skip (by kernel_rfl) ?_; simp only [Act.put, List.setIfInBounds_toArray, List.set_cons_zero, List.set_cons_succ])
          iterate 5 (refine SG.want (by kernel_rfl) (fun Kq hKq => ?_); go_simp; refine hKq _ ?_; clear hKq Kq)
          refine SG.done ?_
          rw [← hQc]
          change wpList _ _ _ _ _ W2.drew
          go_wp2_with fail
          refine (hfi.out _ (Below.refl _ _).drew).mono ?_
          rintro e wq ⟨rfl, hbq⟩
          have hbr : Below W2.heap.size W2 wq := (Below.refl _ W2).drew.trans hbq
          go_wp2_with fail
          go_ret
          exact hbad.out _ hbr
         | true =>
          have hok : Hid (∀ W, Below W2.heap.size W2 W → Blk W sb 24 (stC s (some ⟨b, off, none⟩) n c) ∧ Below w.heap.size w W) := fun W hW => ⟨hBW'.out.below hW hBW'.out.lt, hbW.out.trans (hW.mono hbW.out.size)⟩
          have hl3 := hgo hfn hpl
          rw [hfn] at hfi
          clear hlc hgo
          go_wp2_with fail
          rw [hg.out, hWW.out]
          refine wp_region_still_tail 23 (by kernel_rfl) (by kernel_rfl) ?_
          simp only [List.take_succ_cons, List.take_zero, List.drop_succ_cons, List.drop_zero]
          refine SG.out ?_
          generalize hQc : (fun a' => wpList _ _ _ _ a' _) = Qc
          iterate 2 (refine SG.want (by kernel_rfl) (fun Kq hKq => ?_); go_simp; refine hKq _ ?_; clear hKq Kq)
          (refine SG.want (by kernel_rfl) (fun Kq hKq => ?_); go_simp; refine ⟨_, hfol.out _, hKq _ ?_⟩; clear hKq Kq)
          iterate 5 (refine SG.want (by kernel_rfl) (fun Kq hKq => ?_); go_simp; refine hKq _ ?_; clear hKq Kq)
          iterate 10 (refine SG.skip (by kernel_rfl) ?_; simp only [Act.put, List.setIfInBounds_toArray, List.set_cons_zero, List.set_cons_succ])
          iterate 5 (refine SG.want (by kernel_rfl) (fun Kq hKq => ?_); go_simp; refine hKq _ ?_; clear hKq Kq)
          refine SG.done ?_
          rw [← hQc]
          change wpList _ _ _ _ _ W2.drew
          go_wp2_with fail
          refine (hfi.out _ (Below.refl _ _).drew).mono ?_
          rintro e wq ⟨rfl, hbq⟩
          have hbr : Below W2.heap.size W2 wq := (Below.refl _ W2).drew.trans hbq
          have hfin := Lib.hid (hok.out _ hbr)
          clear hok hbq hbr
          go_wp2_with fail
          go_roundw
          case rel => exact ⟨0 + 1, x.folder, by omega, by go_num, hnp, hl3, hfin.out.1, hfin.out.2⟩
          case measure => simp [intOf]; omega
       · obtain ⟨_, _, _, _, _, e1, _, _, _, _, y0, _⟩ := (H'.out.below hbW.out).ls.cells hy
         cases e1
         have hj0 : (0 : Int) ≤ (j : Int) := by omega
         have hj1 : (j : Int) < (n : Int) := by omega
         have hkp : (0 : Int) < (k : Int) := by omega
         have hkj' : (k : Int) - 1 = (j : Int) := by omega
         have hjw : IntKind.i64.wrap (j : Int) = (j : Int) := IntWalk.i64_in _ (by omega)
         have hk0 : 0 < k := by omega
         have hjn : j < n := by omega
         clear hkj
         by_cases hpl : y.folder < x.folder
         · have hge : decide (x.folder ≤ y.folder) = false := decide_eq_false (by omega)
           cases hfn : Sto.fineB x.es with
           | false =>
            have hbad : Hid (∀ W, Below W2.heap.size W2 W → RetI X w (.returned (.int .i64 300)) W) := fun W hW => ⟨by rw [hchkf.out (hlc _ rfl (.inl hfn)).out], hbW.out.trans (hW.mono hbW.out.size)⟩
            rw [hfn] at hfi
            clear hlc hgo
            go_wp2_with fail
            rw [hg.out, hWW.out]
            refine wp_region_still_tail 23 (by kernel_rfl) (by kernel_rfl) ?_
            simp only [List.take_succ_cons, List.take_zero, List.drop_succ_cons, List.drop_zero]
            refine SG.out ?_
            generalize hQc : (fun a' => wpList _ _ _ _ a' _) = Qc
            iterate 2 (refine SG.want (by kernel_rfl) (fun Kq hKq => ?_); go_simp; refine hKq _ ?_; clear hKq Kq)
            (refine SG.want (by kernel_rfl) (fun Kq hKq => ?_); go_simp; refine ⟨_, hfol.out _, hKq _ ?_⟩; clear hKq Kq)
            iterate 20 (refine SG.want (by kernel_rfl) (fun Kq hKq => ?_); go_simp; refine hKq _ ?_; clear hKq Kq)
            refine SG.done ?_
            rw [← hQc]
            change wpList _ _ _ _ _ W2.drew
            go_wp2_with fail
            refine (hfi.out _ (Below.refl _ _).drew).mono ?_
            rintro e wq ⟨rfl, hbq⟩
            have hbr : Below W2.heap.size W2 wq := (Below.refl _ W2).drew.trans hbq
            go_wp2_with fail
            go_ret
            exact hbad.out _ hbr
           | true =>
            have hok : Hid (∀ W, Below W2.heap.size W2 W → Blk W sb 24 (stC s (some ⟨b, off, none⟩) n c) ∧ Below w.heap.size w W) := fun W hW => ⟨hBW'.out.below hW hBW'.out.lt, hbW.out.trans (hW.mono hbW.out.size)⟩
            have hl3 := hgo hfn hpl
            rw [hfn] at hfi
            clear hlc hgo
            go_wp2_with fail
            rw [hg.out, hWW.out]
            refine wp_region_still_tail 23 (by kernel_rfl) (by kernel_rfl) ?_
            simp only [List.take_succ_cons, List.take_zero, List.drop_succ_cons, List.drop_zero]
            refine SG.out ?_
            generalize hQc : (fun a' => wpList _ _ _ _ a' _) = Qc
            iterate 2 (refine SG.want (by kernel_rfl) (fun Kq hKq => ?_); go_simp; refine hKq _ ?_; clear hKq Kq)
            (refine SG.want (by kernel_rfl) (fun Kq hKq => ?_); go_simp; refine ⟨_, hfol.out _, hKq _ ?_⟩; clear hKq Kq)
            iterate 20 (refine SG.want (by kernel_rfl) (fun Kq hKq => ?_); go_simp; refine hKq _ ?_; clear hKq Kq)
            refine SG.done ?_
            rw [← hQc]
            change wpList _ _ _ _ _ W2.drew
            go_wp2_with fail
            refine (hfi.out _ (Below.refl _ _).drew).mono ?_
            rintro e wq ⟨rfl, hbq⟩
            have hbr : Below W2.heap.size W2 wq := (Below.refl _ W2).drew.trans hbq
            have hfin := Lib.hid (hok.out _ hbr)
            clear hok hbq hbr
            go_wp2_with fail
            go_roundw
            case rel => exact ⟨k + 1, x.folder, by omega, by go_num, hnp, hl3, hfin.out.1, hfin.out.2⟩
            case measure => simp [intOf]; omega
         · have hge : x.folder ≤ y.folder := by omega
           have hbad : Hid (∀ m, RetI X w (.returned (.int .i64 300)) (W2.drewN m)) := fun m => ⟨by rw [hchkf.out (hlc _ rfl (.inr (decide_eq_false hpl))).out], hbW.out.trans (below_drewN _ _ _)⟩
           clear hlc hgo
           go_wp2_with fail
           rw [hg.out, hWW.out]
           go_quiet (first | (go_at_call 91; exact Calls.quiet_of_same (hfol.out _)))
           go_wp2_with fail
           go_ret
           exact hbad.out _
    · obtain rfl : k = n := by omega
      have hfin : Hid (RetI X w (.returned (.int .i64 0)) wr) := ⟨by rw [hchkt.out (by rw [hl.out, List.drop_eq_nil_of_le (by omega)]; rfl)], hb.out⟩
      clear hl hB hb hp
      go_wp2_with fail
      go_ret
      exact hfin.out
 · have hpost : NewPost s.id s.priv = fun w e w' => e = .returned (.tuple #[stV 0 0, .int .i64 (Sto.newE s.id s.priv)]) ∧ Below w.heap.size w w' := by funext w e w'; simp [NewPost, hne]
   rw [hpost] at hnw
   have hchk : Sto.chkS s = 300 := by simp [Sto.chkS, hne]
   rw [hchk]
   clear hpost hchk
   unfold stV at hnw
   generalize Sto.newE s.id s.priv = q at *
   go_enter Tryz.func41, Tryz.ntmps41
   go_wp2_with fail
   refine (hnw.out _).mono ?_
   rintro e w2 ⟨rfl, hb2⟩
   go_wp2_with fail
   go_returns
   exact ⟨rfl, (((Below.refl _ w).alloc (Nat.le_refl _) _).trans (hb2.mono (by simp))).alloc (Nat.le_trans (by simp) hb2.size) _⟩
end Go.Proofs.YtnonfdcbnkdmcaaGreatDoor
