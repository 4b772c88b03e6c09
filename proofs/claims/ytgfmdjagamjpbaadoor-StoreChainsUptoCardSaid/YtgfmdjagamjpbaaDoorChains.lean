/- StoreChains: for all steps and all further ones the law returns true and its arguments read as before; the package variables digest.start and digest.numbers are as the program's text lays them (the tied card); the arguments hold together at most 1048576 values and letters (the statement's own second form). -/
import Derived.Test.YtgfmdjagamjpbaaDoorSnp
import Derived.Test.YtgfmdjagamjpbaaDoorCol
import Derived.Test.YtgfmdjagamjpbaaDoorSgh
import Derived.Test.YtgfmdjagamjpbaaDoorOpa
import Derived.Test.YtgfmdjagamjpbaaDoorSne
import Derived.Deep.DeepHandedRow
import Derived.Deep.DeepWitnessRowRef
import Derived.Test.YtgfmdjagamjpbaaDoorCards
import Derived.Test.YtgfmdjagamjpbaaDoorTie
import Derived.SevenTiedAt
namespace Go.Sto
structure Stp where
  folder : Int
  kind : Int
  no : Int
  data : List Nat
def stepS (s : St) (x : Stp) : St :=
  if x.kind = 0 then (if (delS s x.folder x.no).2 = 0 then (delS s x.folder x.no).1 else s)
  else (if (putS s x.folder x.kind x.data).2.2 = 0 then (putS s x.folder x.kind x.data).1 else s)
def playGo (s : St) : List Stp → St × Bool
  | [] => (s, true)
  | x :: r => if 100 < x.data.length then (s, false) else playGo (stepS s x) r
def newSt : St := ⟨2, 5, []⟩
def playS (l : List Stp) : St × Bool := if 10 < l.length then (zeroS, false) else playGo newSt l
theorem step_del0 {s y : St} {x : Stp} (hk : x.kind = 0) (h : delS s x.folder x.no = (y, 0)) : stepS s x = y := by simp [stepS, hk, h]
theorem step_del1 {s y : St} {x : Stp} {q : Int} (hk : x.kind = 0) (h : delS s x.folder x.no = (y, q)) (hq : q ≠ 0) : stepS s x = s := by simp [stepS, hk, h, hq]
theorem step_put0 {s y : St} {x : Stp} {no : Int} (hk : x.kind ≠ 0) (h : putS s x.folder x.kind x.data = (y, no, 0)) : stepS s x = y := by simp [stepS, hk, h]
theorem step_put1 {s y : St} {x : Stp} {no q : Int} (hk : x.kind ≠ 0) (h : putS s x.folder x.kind x.data = (y, no, q)) (hq : q ≠ 0) : stepS s x = s := by simp [stepS, hk, h, hq]
end Go.Sto
namespace Go.Proofs.YtgfmdjagamjpbaaDoor
open Go.RowKit Go.Mem
open Go.Sto (Ent Lg St Stp)

def stpC (x : Stp) (a : Option Addr) (n c : Nat) : List Value := [.int .i64 x.folder, .int .i64 x.kind, .int .i64 x.no, .slice a n c]
/-- a row that reads as a step. -/
def TV (w : World) (x : Stp) (r : List Value) : Prop := I64 x.folder ∧ I64 x.kind ∧ I64 x.no ∧ ∃ a n c, r = stpC x a n c ∧ BW w a n c x.data
/-- a slice of steps. -/
def SS (w : World) (a : Option Addr) (n c : Nat) (l : List Stp) : Prop := RS 4 TV (fun _ => True) w a n c l
theorem SS.below {w w' : World} {a : Option Addr} {n c : Nat} {l : List Stp} (h : SS w a n c l) (hb : Below w.heap.size w w') : SS w' a n c l :=
  RS.keep h (.below hb) fun _ _ ⟨h1, h2, h3, a, n, c, e, h4⟩ => ⟨h1, h2, h3, a, n, c, e, h4.below hb⟩
theorem stpC_one (x : Stp) (a : Option Addr) (n c : Nat) : ∀ u ∈ stpC x a n c, u.oneCell' = true := by
  intro u hu
  simp only [stpC, List.mem_cons, List.not_mem_nil, or_false] at hu
  rcases hu with rfl | rfl | rfl | rfl <;> rfl
theorem sizeSto : (Tryd.prog.info? 26).map (·.size) = some 3 := by kernel_rfl
theorem stC_ones (s : St) (a : Option Addr) (n c : Nat) : ∀ u ∈ stC s a n c, u.oneCell' = true := by
  intro u hu
  simp only [stC, List.mem_cons, List.not_mem_nil, or_false] at hu
  rcases hu with rfl | rfl | rfl <;> rfl
theorem sizeStp : (Tryd.prog.info? 58).map (·.size) = some 4 := by kernel_rfl
def PlayPost (s : St) (b : Bool) (w : World) (e : Ending) (w' : World) : Prop :=
  ∃ a c, e = .returned (.tuple #[.agg #[.int .i64 s.id, .int .i64 s.priv, .slice a s.logs.length c], .bool b]) ∧ SV (fun _ => True) w' a s.logs.length c s ∧ Below w.heap.size w w'
theorem play_ret {W : World} {tb : Nat} {x0 x1 x2 : Value} {b : Bool} (hB : Blk W tb 26 [x0, x1, x2]) {a : Act} (hp : a.tmps.getD 2 undef = .pointer (some ⟨tb, 0, none⟩)) (hq : a.tmps.getD 3 undef = .bool b) (hd : a.defers = []) {Post : Ending → World → Prop} (hP : Post (.returned (.tuple #[.agg #[x0, x1, x2], .bool b])) W) :
    bodyPost Tryd.prog Tryd.f8 Post .ret a W := by
  have c0 := hB.at_ (i := 0) rfl
  have c1 := hB.at_ (i := 1) rfl
  have c2 := hB.at_ (i := 2) rfl
  refine bodyPost_ret (v := .tuple #[.agg #[x0, x1, x2], .bool b]) ?_ hd hP
  rw [results_cell_tmp rfl, hp, hq]
  simp [go_sem, c0, c1, c2]

/-- what the loop keeps: the store's box, what it holds, and that nothing older has changed. -/
structure PlyW (w : World) (tb : Nat) (s : St) (a : Option Addr) (c : Nat) (wr : World) : Prop where
  box : Blk wr tb 26 (stC s a s.logs.length c)
  sv : SV (fun b => tb < b) wr a s.logs.length c s
  bel : Below w.heap.size w wr
theorem PlyW.next {w wr wq : World} {tb : Nat} {s : St} {a : Option Addr} {c : Nat} (h : PlyW w tb s a c wr) (hb : Below wr.heap.size wr wq) : PlyW w tb s a c wq :=
  ⟨h.box.below hb h.box.lt, h.sv.below hb, h.bel.trans (hb.mono h.bel.size)⟩
/-- the store s is written into the box anew. -/
theorem PlyW.put {w wr wq : World} {tb : Nat} {s s' : St} {a a' : Option Addr} {c c' : Nat} (h : PlyW w tb s a c wr) (hw : w.heap.size ≤ tb) (hP : PutR 26 wr wq tb 26 (stC s' a' s'.logs.length c')) (hS : SV (fun b => tb < b) wr a' s'.logs.length c' s') : PlyW w tb s' a' c' wq :=
  ⟨hP.blk, hS.keep (Keeps.grown hP.grown fun b hb e => by omega), below_grown h.bel hP.grown h.bel.size hw⟩
theorem PlyW.fin {w wr : World} {tb : Nat} {s : St} {a : Option Addr} {c : Nat} (h : PlyW w tb s a c wr) (b : Bool) : PlayPost s b w (.returned (.tuple #[.agg #[.int .i64 s.id, .int .i64 s.priv, .slice a s.logs.length c], .bool b])) wr :=
  ⟨a, c, rfl, h.sv.imp fun _ _ _ => trivial, h.bel⟩
/-- .. and its cells. -/
theorem box_put {W : World} {tb : Nat} {x : List Value} {s : St} {a : Option Addr} {n c : Nat} (h : Blk W tb 26 x) (hx : x.length = 3) : ∃ W9, PutR 26 W W9 tb 26 (stC s a n c) :=
  put_row h (by rw [hx]; rfl) sizeSto (stC_ones _ _ _ _)

theorem new25 (w : World) : Calls Tryd.prog 24 #[.int .i64 2, .int .i64 5] w (fun e w' => e = .returned (.tuple #[.agg #[.int .i64 2, .int .i64 5, .slice none 0 0], .int .i64 0]) ∧ Below w.heap.size w w') := by
  have h := New_any 2 5 w
  have e : Sto.newE 2 5 = 0 := by decide
  unfold NewPost at h
  rw [e, if_pos rfl] at h
  exact h
theorem sv_new {K : Nat → Prop} {w : World} : SV K w none Sto.newSt.logs.length 0 Sto.newSt := ⟨LS.nil0 _ _, ⟨by decide, by decide⟩, ⟨by decide, by decide⟩⟩

set_option maxRecDepth 20000 in
set_option maxHeartbeats 4000000 in
theorem play_any (a : Option Addr) (n c : Nat) (l : List Stp) (w : World) (HT : Tabs w) (H : SS w a n c l) :
    Calls Tryd.prog 8 #[.slice a n c] w (PlayPost (Sto.playS l).1 (Sto.playS l).2 w) := by
  have HT' := Lib.hid HT; have H' := Lib.hid H
  have hlen := H.len
  clear HT H
  obtain ⟨tb, htb⟩ : ∃ tb, Hid (w.heap.size = tb) := ⟨_, rfl⟩
  have hle : Hid (w.heap.size ≤ tb) := Nat.le_of_eq htb.out
  obtain ⟨W1, hW1⟩ : ∃ W1, W1 = w.alloc (.cells #[.int .i64 0, .int .i64 0, .slice none 0 0] 26) := ⟨_, rfl⟩
  have hP1 : Hid (PlyW w tb Sto.zeroS none 0 W1) := by
    rw [hW1, ← htb.out]
    exact ⟨Blk.new w _ _, SV.zero _ _, (Below.refl _ w).alloc (Nat.le_refl _) _⟩
  obtain ⟨X, hX⟩ : ∃ X, X = PlayPost (Sto.playS l).1 (Sto.playS l).2 w := ⟨_, rfl⟩
  rw [← hX]
  by_cases hn : 10 < n
  · have hXf : Hid (X = PlayPost Sto.zeroS false w) := by show _ = _; rw [hX]; unfold Sto.playS; rw [if_pos (by omega)]
    clear hX
    have hn' : (10 : Int) < (n : Int) := by omega
    go_enter Tryd.func8, Tryd.ntmps8
    go_upto_region 1 with fail
    rw [htb.out]
    generalize hg : World.alloc w _ = Wg
    obtain rfl : W1 = Wg := by rw [← hg, hW1]
    clear hg hW1
    obtain ⟨W2, hP⟩ := box_put (s := Sto.zeroS) (a := none) (n := Sto.zeroS.logs.length) (c := 0) hP1.out.box rfl
    have hP2 := Lib.hid hP
    have hP3 := Lib.hid (hP1.out.put hle.out hP hP1.out.sv)
    have c0 := hP1.out.box.at_ (i := 0) rfl
    have c1 := hP1.out.box.at_ (i := 1) rfl
    have c2 := hP1.out.box.at_ (i := 2) rfl
    clear hP hP1
    go_wp2_with (first
      | (refine wpList_store_mid (by rfl) 26 (.tmp 2) (.tmp 15) (by rfl) tb 0 (stC Sto.zeroS none Sto.zeroS.logs.length 0).toArray (by rfl) (by rfl) hP2.out.there hP2.out.info (by simpa using hP2.out.one) ?_
         generalize hWq : World.setCells _ _ _ _ = Wa
         obtain rfl : W2 = Wa := by rw [← hWq]; exact hP2.out.eq
         clear hWq))
    refine play_ret hP2.out.blk rfl rfl rfl ?_
    rw [hXf.out]
    exact hP3.out.fin false
  · have hXf : Hid (X = PlayPost (Sto.playGo Sto.newSt l).1 (Sto.playGo Sto.newSt l).2 w) := by show _ = _; rw [hX]; unfold Sto.playS; rw [if_neg (by omega)]
    clear hX
    have hn' : ¬ (10 : Int) < (n : Int) := by omega
    have n0 : (0 : Int) ≤ (n : Int) := by omega
    go_enter Tryd.func8, Tryd.ntmps8
    go_upto_region 1 with fail
    rw [htb.out]
    generalize hg : World.alloc w _ = Wg
    obtain rfl : W1 = Wg := by rw [← hg, hW1]
    clear hg hW1
    go_wp2_with fail
    refine (new25 _).mono ?_
    rintro e w2 ⟨rfl, hb2⟩
    have hP2 := Lib.hid (hP1.out.next hb2)
    obtain ⟨W3, hP⟩ := box_put (s := Sto.newSt) (a := none) (n := Sto.newSt.logs.length) (c := 0) hP2.out.box rfl
    have hPR := Lib.hid hP
    have hP3 := Lib.hid (hP2.out.put hle.out hP sv_new)
    clear hP hP1 hb2 hP2
    go_wp2_with (first
          | (refine wpList_store_mid (by rfl) 26 (.tmp 2) (.tmp 18) (by rfl) tb 0 (stC Sto.newSt none Sto.newSt.logs.length 0).toArray (by rfl) (by rfl) hPR.out.there hPR.out.info (by simpa using hPR.out.one) ?_
             generalize hWq : World.setCells _ _ _ _ = Wa
             obtain rfl : W3 = Wa := by rw [← hWq]; exact hPR.out.eq
             clear hWq))
    clear hPR
    go_loopw [25] (fun i wr => ∃ (k : Nat) (s : St) (sa : Option Addr) (sc : Nat), k ≤ n ∧ i = .int .i64 k ∧ Hid (PlyW w tb s sa sc wr) ∧ Hid (Sto.playGo Sto.newSt l = Sto.playGo s (l.drop k))) (fun i _ => n - (intOf i).toNat)
    case atStart => exact ⟨0, Sto.newSt, none, 0, Nat.zero_le _, rfl, hP3, rfl⟩
    case round =>
      obtain ⟨k, s, sa, sc, hk, rfl, hS, hf⟩ := hrel
      clear hP3
      by_cases hlt : k < n
      · have hkl : k < l.length := by omega
        have he : l[k]? = some l[k] := List.getElem?_eq_getElem hkl
        have hf' := hf.out
        rw [List.drop_eq_getElem_cons hkl, Sto.playGo] at hf'
        generalize l[k] = x at *
        obtain ⟨b, off, r, rfl, hbl, _, ⟨hi0, hi1, hi2, da, dn, dc, er, hbd⟩, hrl, hrg⟩ := RS.get (H'.out.below hS.out.bel) he
        subst er
        have x0 := hrg 0 _ rfl
        have x1 := hrg 1 _ rfl
        have x2 := hrg 2 _ rfl
        have x3 := hrg 3 _ rfl
        simp only [Nat.add_zero] at x0
        obtain ⟨W2, hP⟩ := put_row (ty := 58) (Blk.new wr 58 [.int .i64 0, .int .i64 0, .int .i64 0, .slice none 0 0]) (x := stpC x da dn dc) rfl sizeStp (stpC_one _ _ _ _)
        have hPR := Lib.hid hP
        have hst := below_grown ((Below.refl _ wr).alloc (Nat.le_refl _) _) hP.grown (by simp) (Nat.le_refl _)
        have hS2 := Lib.hid (hS.out.next hst)
        have hbd2 := Lib.hid (hbd.below hst)
        have y0 := hP.blk.at_ (i := 0) rfl
        have y1 := hP.blk.at_ (i := 1) rfl
        have y2 := hP.blk.at_ (i := 2) rfl
        have y3 := hP.blk.at_ (i := 3) rfl
        have k0 : (0 : Int) ≤ (k : Int) := by omega
        have k1 : (k : Int) < (n : Int) := by omega
        have hdl := hbd.len
        have hHT2 := Lib.hid (HT'.out.below hS2.out.bel)
        clear hP hst hrg hrl hbd hf he
        by_cases hd : 100 < dn
        · rw [if_pos (by omega)] at hf'
          have hd' : (100 : Int) < (dn : Int) := by omega
          obtain ⟨W3, hP⟩ := box_put (s := s) (a := sa) (n := s.logs.length) (c := sc) hS2.out.box rfl
          have hPR3 := Lib.hid hP
          have hS3 := Lib.hid (hS2.out.put hle.out hP hS2.out.sv)
          have hff := Lib.hid hf'
          clear hP hf' hS
          have c0 := hS2.out.box.at_ (i := 0) rfl
          have c1 := hS2.out.box.at_ (i := 1) rfl
          have c2 := hS2.out.box.at_ (i := 2) rfl
          clear hS2
          go_wp2_with (first
                | (refine wpList_store_mid (by rfl) 58 (.tmp 6) (.tmp 28) (by rfl) wr.heap.size 0 (stpC x da dn dc).toArray (by rfl) (by rfl) hPR.out.there hPR.out.info (by simpa using hPR.out.one) ?_
                   generalize hWq : World.setCells _ _ _ _ = Wa
                   obtain rfl : W2 = Wa := by rw [← hWq]; exact hPR.out.eq
                   clear hWq)
                | (refine wpList_store_mid (by rfl) 26 (.tmp 2) (.tmp 33) (by rfl) tb 0 (stC s sa s.logs.length sc).toArray (by rfl) (by rfl) hPR3.out.there hPR3.out.info (by simpa using hPR3.out.one) ?_
                   generalize hWq : World.setCells _ _ _ _ = Wa
                   obtain rfl : W3 = Wa := by rw [← hWq]; exact hPR3.out.eq
                   clear hWq))
          refine play_ret hPR3.out.blk rfl rfl rfl ?_
          rw [hXf.out, hff.out]
          exact hS3.out.fin false
        · rw [if_neg (by omega)] at hf'
          have hd' : ¬ (100 : Int) < (dn : Int) := by omega
          by_cases hkd : x.kind = 0
          · have hkd' : (x.kind == 0) = true := by simp [hkd]
            have hkh := Lib.hid hkd
            clear hkd
            have hcd := Lib.hid (Delete_any sa s.logs.length sc s x.folder x.no hi0 hi2 W2 hHT2.out (hS2.out.sv.imp fun _ _ _ => trivial))
            obtain ⟨V, hV⟩ : ∃ V, Hid (Sto.delS s x.folder x.no = V) := ⟨_, rfl⟩
            rw [hV.out] at hcd
            obtain ⟨y, q⟩ := V
            have hde := hV
            have hff := Lib.hid hf'
            clear hf' hS hV
            have c0 := hS2.out.box.at_ (i := 0) rfl
            have c1 := hS2.out.box.at_ (i := 1) rfl
            have c2 := hS2.out.box.at_ (i := 2) rfl
            go_wp2_with (first
              | (refine wpList_store_mid (by rfl) 58 (.tmp 6) (.tmp 28) (by rfl) wr.heap.size 0 (stpC x da dn dc).toArray (by rfl) (by rfl) hPR.out.there hPR.out.info (by simpa using hPR.out.one) ?_
                 generalize hWq : World.setCells _ _ _ _ = Wa
                 obtain rfl : W2 = Wa := by rw [← hWq]; exact hPR.out.eq
                 clear hWq))
            refine hcd.out.mono ?_
            rintro e w4 ⟨a4, c4, rfl, hS4, hb4⟩
            have hS4' := Lib.hid (hS2.out.next hb4)
            have htl : Hid (tb < w4.heap.size) := hS4'.out.box.lt
            have htl2 : Hid (tb < W2.heap.size) := hS2.out.box.lt
            have hPy := put_row (ty := 26) (Blk.new w4 26 [.int .i64 0, .int .i64 0, .slice none 0 0]) (x := stC y a4 y.logs.length c4) rfl sizeSto (stC_ones _ _ _ _)
            obtain ⟨W5, hP⟩ := hPy
            have hPR5 := Lib.hid hP
            have hst := below_grown ((Below.refl _ w4).alloc (Nat.le_refl _) _) hP.grown (by simp) (Nat.le_refl _)
            have hS5 := Lib.hid (hS4'.out.next hst)
            have hSy : Hid (SV (fun b => tb < b) W5 a4 y.logs.length c4 y) := (hS4.imp fun b _ h => Nat.lt_of_lt_of_le htl2.out h).below hst
            have z0 := hP.blk.at_ (i := 0) rfl
            have z1 := hP.blk.at_ (i := 1) rfl
            have z2 := hP.blk.at_ (i := 2) rfl
            clear hP hst hS4 hb4 hS2 c0 c1 c2
            by_cases hq0 : q = 0
            · subst hq0
              obtain ⟨W6, hP⟩ := box_put (s := y) (a := a4) (n := y.logs.length) (c := c4) hS5.out.box rfl
              have hPR6 := Lib.hid hP
              have hS6 := Lib.hid (hS5.out.put hle.out hP hSy.out)
              have hst0 := Lib.hid (Sto.step_del0 hkh.out hde.out)
              clear hP
              have c0 := hS5.out.box.at_ (i := 0) rfl
              have c1 := hS5.out.box.at_ (i := 1) rfl
              have c2 := hS5.out.box.at_ (i := 2) rfl
              go_wp2_with (first
                | (refine wpList_store_mid (by rfl) 26 (.tmp 7) (.tmp 44) (by rfl) w4.heap.size 0 (stC y a4 y.logs.length c4).toArray (by rfl) (by rfl) hPR5.out.there hPR5.out.info (by simpa using hPR5.out.one) ?_
                   generalize hWq : World.setCells _ _ _ _ = Wa
                   obtain rfl : W5 = Wa := by rw [← hWq]; exact hPR5.out.eq
                   clear hWq)
                | (refine wpList_store_mid (by rfl) 26 (.tmp 2) (.tmp 48) (by rfl) tb 0 (stC y a4 y.logs.length c4).toArray (by rfl) (by rfl) hPR6.out.there hPR6.out.info (by simpa using hPR6.out.one) ?_
                   generalize hWq : World.setCells _ _ _ _ = Wa
                   obtain rfl : W6 = Wa := by rw [← hWq]; exact hPR6.out.eq
                   clear hWq))
              exact ⟨⟨k + 1, y, a4, c4, by omega, by go_num, hS6, by show _ = _; rw [hff.out, hst0.out]⟩, by simp [intOf]; omega⟩
            · have hq : Hid (q ≠ 0) := hq0
              have hst1 := Lib.hid (Sto.step_del1 hkh.out hde.out hq.out)
              go_wp2_with (first
                | (refine wpList_store_mid (by rfl) 26 (.tmp 7) (.tmp 44) (by rfl) w4.heap.size 0 (stC y a4 y.logs.length c4).toArray (by rfl) (by rfl) hPR5.out.there hPR5.out.info (by simpa using hPR5.out.one) ?_
                   generalize hWq : World.setCells _ _ _ _ = Wa
                   obtain rfl : W5 = Wa := by rw [← hWq]; exact hPR5.out.eq
                   clear hWq))
              exact ⟨⟨k + 1, s, sa, sc, by omega, by go_num, hS5, by show _ = _; rw [hff.out, hst1.out]⟩, by simp [intOf]; omega⟩
          · have hkd' : (x.kind == 0) = false := by simp [hkd]
            have hkh := Lib.hid hkd
            clear hkd
            have hcd := Lib.hid (Put_any sa s.logs.length sc s x.folder x.kind hi0 hi1 da dn dc x.data W2 hHT2.out (hS2.out.sv.imp fun _ _ _ => trivial) hbd2.out (by omega))
            obtain ⟨V, hV⟩ : ∃ V, Hid (Sto.putS s x.folder x.kind x.data = V) := ⟨_, rfl⟩
            rw [hV.out] at hcd
            obtain ⟨y, no, q⟩ := V
            have hde := hV
            have hff := Lib.hid hf'
            clear hf' hS hV
            have c0 := hS2.out.box.at_ (i := 0) rfl
            have c1 := hS2.out.box.at_ (i := 1) rfl
            have c2 := hS2.out.box.at_ (i := 2) rfl
            go_wp2_with (first
              | (refine wpList_store_mid (by rfl) 58 (.tmp 6) (.tmp 28) (by rfl) wr.heap.size 0 (stpC x da dn dc).toArray (by rfl) (by rfl) hPR.out.there hPR.out.info (by simpa using hPR.out.one) ?_
                 generalize hWq : World.setCells _ _ _ _ = Wa
                 obtain rfl : W2 = Wa := by rw [← hWq]; exact hPR.out.eq
                 clear hWq))
            refine hcd.out.mono ?_
            rintro e w4 ⟨a4, c4, rfl, hS4, hb4⟩
            have hS4' := Lib.hid (hS2.out.next hb4)
            have htl : Hid (tb < w4.heap.size) := hS4'.out.box.lt
            have htl2 : Hid (tb < W2.heap.size) := hS2.out.box.lt
            have hPy := put_row (ty := 26) (Blk.new w4 26 [.int .i64 0, .int .i64 0, .slice none 0 0]) (x := stC y a4 y.logs.length c4) rfl sizeSto (stC_ones _ _ _ _)
            obtain ⟨W5, hP⟩ := hPy
            have hPR5 := Lib.hid hP
            have hst := below_grown ((Below.refl _ w4).alloc (Nat.le_refl _) _) hP.grown (by simp) (Nat.le_refl _)
            have hS5 := Lib.hid (hS4'.out.next hst)
            have hSy : Hid (SV (fun b => tb < b) W5 a4 y.logs.length c4 y) := (hS4.imp fun b _ h => Nat.lt_of_lt_of_le htl2.out h).below hst
            have z0 := hP.blk.at_ (i := 0) rfl
            have z1 := hP.blk.at_ (i := 1) rfl
            have z2 := hP.blk.at_ (i := 2) rfl
            clear hP hst hS4 hb4 hS2 c0 c1 c2
            by_cases hq0 : q = 0
            · subst hq0
              obtain ⟨W6, hP⟩ := box_put (s := y) (a := a4) (n := y.logs.length) (c := c4) hS5.out.box rfl
              have hPR6 := Lib.hid hP
              have hS6 := Lib.hid (hS5.out.put hle.out hP hSy.out)
              have hst0 := Lib.hid (Sto.step_put0 hkh.out hde.out)
              clear hP
              have c0 := hS5.out.box.at_ (i := 0) rfl
              have c1 := hS5.out.box.at_ (i := 1) rfl
              have c2 := hS5.out.box.at_ (i := 2) rfl
              go_wp2_with (first
                | (refine wpList_store_mid (by rfl) 26 (.tmp 9) (.tmp 58) (by rfl) w4.heap.size 0 (stC y a4 y.logs.length c4).toArray (by rfl) (by rfl) hPR5.out.there hPR5.out.info (by simpa using hPR5.out.one) ?_
                   generalize hWq : World.setCells _ _ _ _ = Wa
                   obtain rfl : W5 = Wa := by rw [← hWq]; exact hPR5.out.eq
                   clear hWq)
                | (refine wpList_store_mid (by rfl) 26 (.tmp 2) (.tmp 63) (by rfl) tb 0 (stC y a4 y.logs.length c4).toArray (by rfl) (by rfl) hPR6.out.there hPR6.out.info (by simpa using hPR6.out.one) ?_
                   generalize hWq : World.setCells _ _ _ _ = Wa
                   obtain rfl : W6 = Wa := by rw [← hWq]; exact hPR6.out.eq
                   clear hWq))
              exact ⟨⟨k + 1, y, a4, c4, by omega, by go_num, hS6, by show _ = _; rw [hff.out, hst0.out]⟩, by simp [intOf]; omega⟩
            · have hq : Hid (q ≠ 0) := hq0
              have hst1 := Lib.hid (Sto.step_put1 hkh.out hde.out hq.out)
              go_wp2_with (first
                | (refine wpList_store_mid (by rfl) 26 (.tmp 9) (.tmp 58) (by rfl) w4.heap.size 0 (stC y a4 y.logs.length c4).toArray (by rfl) (by rfl) hPR5.out.there hPR5.out.info (by simpa using hPR5.out.one) ?_
                   generalize hWq : World.setCells _ _ _ _ = Wa
                   obtain rfl : W5 = Wa := by rw [← hWq]; exact hPR5.out.eq
                   clear hWq))
              exact ⟨⟨k + 1, s, sa, sc, by omega, by go_num, hS5, by show _ = _; rw [hff.out, hst1.out]⟩, by simp [intOf]; omega⟩
      · have hge : ¬ (k : Int) < (n : Int) := by omega
        have hff : Hid (Sto.playGo Sto.newSt l = (s, true)) := by show _ = _; rw [hf.out, List.drop_eq_nil_of_le (by omega)]; rfl
        obtain ⟨W3, hP⟩ := box_put (s := s) (a := sa) (n := s.logs.length) (c := sc) hS.out.box rfl
        have hPR3 := Lib.hid hP
        have hS3 := Lib.hid (hS.out.put hle.out hP hS.out.sv)
        clear hP hf
        have c0 := hS.out.box.at_ (i := 0) rfl
        have c1 := hS.out.box.at_ (i := 1) rfl
        have c2 := hS.out.box.at_ (i := 2) rfl
        go_wp2_with (first
          | (refine wpList_store_mid (by rfl) 26 (.tmp 2) (.tmp 65) (by rfl) tb 0 (stC s sa s.logs.length sc).toArray (by rfl) (by rfl) hPR3.out.there hPR3.out.info (by simpa using hPR3.out.one) ?_
             generalize hWq : World.setCells _ _ _ _ = Wa
             obtain rfl : W3 = Wa := by rw [← hWq]; exact hPR3.out.eq
             clear hWq))
        refine play_ret hPR3.out.blk rfl rfl rfl ?_
        rw [hXf.out, hff.out]
        exact hS3.out.fin true
end Go.Proofs.YtgfmdjagamjpbaaDoor
namespace Go.Sto
theorem put_valid {s x : St} {f k no : Int} {d : List Nat} (hv : chkS s = 0) (h : putS s f k d = (x, no, 0)) : chkS x = 0 := by
  unfold putS at h
  split at h
  · rename_i ho
    split at h
    · rename_i hk
      split at h
      · cases h; exact hv
      · rename_i hi
        split at h
        · cases h
        · rename_i hl
          cases h
          exact replS_ok ho (putE_fine (ents_fine hv f) hk hi hl)
    · cases h
  · rename_i ho
    simp only [Prod.mk.injEq] at h
    exact absurd h.2.2 ho
theorem del_valid {s x : St} {f no : Int} (hv : chkS s = 0) (h : delS s f no = (x, 0)) : chkS x = 0 := by
  unfold delS at h
  split at h
  · rename_i ho
    split at h
    · rename_i hr
      split at h
      · rename_i e he
        split at h
        · rename_i hk
          cases h
          refine replS_ok ho ?_
          rcases ents_fine hv f with h0 | h0
          · rw [h0] at he; simp at he
          · exact delL_fine h0 he hk
        · cases h
      · cases h
    · cases h
  · rename_i ho
    simp only [Prod.mk.injEq] at h
    exact absurd h.2 ho
theorem step_valid {s : St} (hv : chkS s = 0) (x : Stp) : chkS (stepS s x) = 0 := by
  unfold stepS
  split
  · split
    · rename_i h; exact del_valid (no := x.no) (f := x.folder) hv (by rw [← h])
    · exact hv
  · split
    · rename_i h; exact put_valid (k := x.kind) (d := x.data) (f := x.folder) (no := (putS s x.folder x.kind x.data).2.1) hv (by rw [← h])
    · exact hv
theorem playGo_valid : ∀ (l : List Stp) {s : St}, chkS s = 0 → chkS (playGo s l).1 = 0
  | [], _, h => h
  | x :: r, s, h => by
    unfold playGo
    split
    · exact h
    · exact playGo_valid r (step_valid h x)
theorem play_valid {l : List Stp} {s : St} (h : playS l = (s, true)) : chkS s = 0 := by
  unfold playS at h
  split at h
  · cases h
  · have := playGo_valid l (s := newSt) (by decide)
    rw [h] at this
    exact this

theorem idx_snoc {l : List Ent} {e : Ent} (h : ¬ idxE e.dig l < l.length) : idxE e.dig (l ++ [e]) = l.length := by
  refine idxE_at (e := e) (by simp) rfl fun j x hj hx hd => ?_
  rw [List.getElem?_append_left hj] at hx
  exact idxE_not h (List.mem_map.2 ⟨x, List.mem_of_getElem? hx, hd⟩)
theorem drop_at {l : List Ent} {i : Nat} {e : Ent} (h : l[i]? = some e) : l.drop i = e :: l.drop (i + 1) := by
  have hi := (List.getElem?_eq_some_iff.1 h).1
  rw [List.drop_eq_getElem_cons hi]
  rw [show l[i] = e from Option.some.inj ((List.getElem?_eq_getElem hi).symm.trans h)]

theorem once_plain {s x : St} {f k no : Int} {d : List Nat} (hv : chkS s = 0) (h : putS s f k d = (x, no, 0)) :
    putS x f k d = (x, no, 0) ∧ 1 ≤ no ∧ no ≤ 100000 ∧ ∃ z r, fetchS x f no = (z :: r, 0) ∧ z.dig = entD k d ∧ (z.gone = true ∨ z.dig = entD z.kind z.data) := by
  have hx := put_valid hv h
  have h' := h
  unfold putS at h
  split at h
  · rename_i ho
    split at h
    · rename_i hk
      split at h
      · rename_i hi
        simp only [Prod.mk.injEq] at h
        obtain ⟨rfl, h2, _⟩ := h
        have hlen : (ents s f).length ≤ 65536 := by
          rcases ents_fine hv f with h0 | h0
          · rw [h0]; simp
          · exact ((fineB_iff _).1 h0).2.2.2
        refine ⟨h', by omega, by omega, ?_⟩
        obtain ⟨e, he, hd⟩ := idxE_lt hi
        refine ⟨e, (ents s f).drop (idxE (entD k d) (ents s f) + 1), ?_, hd, ?_⟩
        · unfold fetchS
          rw [if_pos ho, if_pos (by omega), show (no - 1).toNat = idxE (entD k d) (ents s f) by omega, drop_at he]
        · rcases ents_fine hv f with h0 | h0
          · rw [h0] at he; simp at he
          · exact entB_of (((fineB_iff _).1 h0).1 e (List.mem_of_getElem? he))
      · rename_i hi
        split at h
        · cases h
        · rename_i hl
          simp only [Prod.mk.injEq] at h
          obtain ⟨rfl, h2, _⟩ := h
          have ho2 : openE (replS s f (putE (ents s f) k d)) f = 0 := by
            rw [openE_iff]
            exact ⟨hx, ((openE_iff _ _).1 ho).2⟩
          have hen : ents (replS s f (putE (ents s f) k d)) f = putE (ents s f) k d := ents_repl_same _ _ _
          have hix : idxE (entD k d) (putE (ents s f) k d) = (ents s f).length := idx_snoc (e := ⟨k, entD k d, d, false⟩) hi
          have hln : (putE (ents s f) k d).length = (ents s f).length + 1 := by simp [putE]
          have hlen : (ents s f).length ≤ 65536 := by
            rcases ents_fine hv f with h0 | h0
            · rw [h0]; simp
            · exact ((fineB_iff _).1 h0).2.2.2
          refine ⟨?_, by omega, by omega, ⟨k, entD k d, d, false⟩, [], ?_, rfl, .inr rfl⟩
          · unfold putS
            rw [if_pos ho2, if_pos hk, hen, hix, if_pos (by omega), h2]
          · unfold fetchS
            rw [if_pos ho2, hen, hln, if_pos (by omega), show (no - 1).toNat = (ents s f).length by omega]
            simp [putE]
    · cases h
  · rename_i ho
    simp only [Prod.mk.injEq] at h
    exact absurd h.2.2 ho

theorem once_err {s x : St} {f k no q : Int} {d : List Nat} (hv : chkS s = 0) (h : putS s f k d = (x, no, q)) (hq : q ≠ 0) :
    no = 0 ∧ ((q = 1 ∧ (f < 0 ∨ 16 ≤ f ∨ k < 1 ∨ 7 < k)) ∨ (q = 2 ∧ 0 ≤ f ∧ f < 16 ∧ 1 ≤ k ∧ k ≤ 7)) := by
  unfold putS at h
  rw [openE_valid hv] at h
  cases hf : folderB f with
  | false =>
    rw [hf] at h
    simp at h
    have := of_decide_eq_false hf
    obtain ⟨_, h1, h2⟩ := h
    exact ⟨h1.symm, .inl ⟨h2.symm, by omega⟩⟩
  | true =>
    rw [hf] at h
    have hf' := of_decide_eq_true hf
    simp only [if_true] at h
    cases hk : kindB k with
    | false =>
      rw [hk] at h
      simp at h
      have := of_decide_eq_false hk
      obtain ⟨_, h1, h2⟩ := h
      exact ⟨h1.symm, .inl ⟨h2.symm, by omega⟩⟩
    | true =>
      rw [hk] at h
      have hk' := of_decide_eq_true hk
      simp only [if_true] at h
      split at h
      · simp only [Prod.mk.injEq] at h; omega
      · split at h
        · simp only [Prod.mk.injEq] at h
          exact ⟨by omega, .inr ⟨by omega, by omega⟩⟩
        · simp only [Prod.mk.injEq] at h; omega
end Go.Sto
namespace Go.Sto
theorem ents_len {s : St} (hv : chkS s = 0) (g : Int) : (ents s g).length ≤ 65536 := by
  rcases ents_fine hv g with h0 | h0
  · rw [h0]; simp
  · exact ((fineB_iff _).1 h0).2.2.2
theorem fetch_all {s : St} (hv : chkS s = 0) {g : Int} (hg : folderB g = true) : fetchS s g 1 = (ents s g, 0) := by
  unfold fetchS
  rw [if_pos (by rw [openE_iff]; exact ⟨hv, hg⟩), if_pos (by omega)]
  simp
theorem put_apart {s a : St} {f k no : Int} {d : List Nat} (_hv : chkS s = 0) (h : putS s f k d = (a, no, 0)) (g : Int) :
    ∃ t, ents a g = ents s g ++ t ∧ (t = [] ∨ (t.length = 1 ∧ g = f ∧ no = (ents s g).length + 1)) := by
  unfold putS at h
  split at h
  · split at h
    · split at h
      · simp only [Prod.mk.injEq] at h
        obtain ⟨rfl, _, _⟩ := h
        exact ⟨[], by simp, .inl rfl⟩
      · split at h
        · cases h
        · simp only [Prod.mk.injEq] at h
          obtain ⟨rfl, h2, _⟩ := h
          by_cases hgf : g = f
          · subst hgf
            exact ⟨_, by rw [ents_repl_same]; rfl, .inr ⟨rfl, rfl, h2.symm⟩⟩
          · exact ⟨[], by rw [ents_repl_other _ _ hgf]; simp, .inl rfl⟩
    · cases h
  · rename_i ho
    simp only [Prod.mk.injEq] at h
    exact absurd h.2.2 ho
theorem del_apart {s b : St} {f no : Int} (h : delS s f no = (b, 0)) (g : Int) :
    1 ≤ no ∧ (g ≠ f → ents b g = ents s g) ∧ (g = f → ents b g = delL (ents s g) (no - 1).toNat ∧ ∃ e, (ents s g)[(no - 1).toNat]? = some e ∧ e.kind = 4) := by
  unfold delS at h
  split at h
  · split at h
    · rename_i hr
      split at h
      · rename_i e he
        split at h
        · rename_i hk
          simp only [Prod.mk.injEq] at h
          obtain ⟨rfl, _⟩ := h
          refine ⟨hr.1, fun hg => ents_repl_other _ _ hg, fun hg => ?_⟩
          subst hg
          exact ⟨ents_repl_same _ _ _, e, he, hk⟩
        · cases h
      · cases h
    · cases h
  · rename_i ho
    simp only [Prod.mk.injEq] at h
    exact absurd h.2 ho
theorem del_at {s b : St} {f no : Int} (h : delS s f no = (b, 0)) (g : Int) :
    (ents b g).length = (ents s g).length ∧ ∀ (j : Nat) (e : Ent), (ents s g)[j]? = some e → (¬ (g = f ∧ (j : Int) + 1 = no) → (ents b g)[j]? = some e) ∧ (g = f ∧ (j : Int) + 1 = no → (ents b g)[j]? = some (delE e) ∧ e.kind = 4) := by
  obtain ⟨h1, h2, h3⟩ := del_apart h g
  by_cases hg : g = f
  · obtain ⟨h4, e4, h5, h6⟩ := h3 hg
    rw [h4, delL_length]
    refine ⟨rfl, fun j e he => ⟨fun hn => ?_, fun hy => ?_⟩⟩
    · rw [delL_get, he, if_neg (by intro e; exact hn ⟨hg, by omega⟩)]
      rfl
    · have hj : (no - 1).toNat = j := by omega
      rw [delL_get, he, if_pos hj]
      rw [hj, he] at h5
      cases h5
      exact ⟨rfl, h6⟩
  · rw [h2 hg]
    exact ⟨rfl, fun j e he => ⟨fun _ => he, fun hy => absurd hy.1 hg⟩⟩
end Go.Sto
namespace Go.Sto
/-- the log L' continues the log L. -/
def Grows (L L' : List Ent) : Prop := L.length ≤ L'.length ∧ ∀ (j : Nat) (e : Ent), L[j]? = some e → ∃ e', L'[j]? = some e' ∧ e'.kind = e.kind ∧ e'.dig = e.dig ∧ (e.gone = true → e'.gone = true)
theorem Grows.refl (L : List Ent) : Grows L L := ⟨Nat.le_refl _, fun _ e h => ⟨e, h, rfl, rfl, id⟩⟩
theorem Grows.trans {A B C : List Ent} (h : Grows A B) (k : Grows B C) : Grows A C := ⟨Nat.le_trans h.1 k.1, fun j e he => by
  obtain ⟨e1, h1, h2, h3, h4⟩ := h.2 j e he
  obtain ⟨e2, k1, k2, k3, k4⟩ := k.2 j e1 h1
  exact ⟨e2, k1, k2.trans h2, k3.trans h3, fun h => k4 (h4 h)⟩⟩
theorem put_grows {s x : St} {f k no : Int} {d : List Nat} (hv : chkS s = 0) (h : putS s f k d = (x, no, 0)) (g : Int) : Grows (ents s g) (ents x g) := by
  obtain ⟨t, ht, _⟩ := put_apart hv h g
  rw [ht]
  refine ⟨by simp, fun j e he => ⟨e, ?_, rfl, rfl, id⟩⟩
  rw [List.getElem?_append_left (List.getElem?_eq_some_iff.1 he).1]
  exact he
theorem del_grows {s x : St} {f no : Int} (h : delS s f no = (x, 0)) (g : Int) : Grows (ents s g) (ents x g) := by
  obtain ⟨h1, h2⟩ := del_at h g
  refine ⟨Nat.le_of_eq h1.symm, fun j e he => ?_⟩
  by_cases hh : g = f ∧ (j : Int) + 1 = no
  · exact ⟨_, ((h2 j e he).2 hh).1, rfl, rfl, fun _ => rfl⟩
  · exact ⟨_, (h2 j e he).1 hh, rfl, rfl, id⟩
theorem step_grows {s : St} (hv : chkS s = 0) (x : Stp) (g : Int) : Grows (ents s g) (ents (stepS s x) g) := by
  unfold stepS
  split
  · split
    · rename_i h; exact del_grows (no := x.no) (f := x.folder) (by rw [← h]) g
    · exact Grows.refl _
  · split
    · rename_i h; exact put_grows (k := x.kind) (d := x.data) (f := x.folder) (no := (putS s x.folder x.kind x.data).2.1) hv (by rw [← h]) g
    · exact Grows.refl _
theorem playGo_grows (g : Int) : ∀ (l : List Stp) {s : St}, chkS s = 0 → Grows (ents s g) (ents (playGo s l).1 g)
  | [], _, _ => Grows.refl _
  | x :: r, s, h => by
    unfold playGo
    split
    · exact Grows.refl _
    · exact (step_grows h x g).trans (playGo_grows g r (step_valid h x))
theorem playGo_append : ∀ (l m : List Stp) {s0 s : St}, playGo s0 l = (s, true) → playGo s0 (l ++ m) = playGo s m
  | [], _, s0, s, h => by cases h; rfl
  | x :: r, m, s0, s, h => by
    unfold playGo at h
    rw [List.cons_append, playGo]
    split at h
    · cases h
    · rename_i hx
      rw [if_neg hx]
      exact playGo_append r m h
theorem play_grows {l m : List Stp} {s x : St} (h : playS l = (s, true)) (h' : playS (l ++ m) = (x, true)) (g : Int) : chkS s = 0 ∧ chkS x = 0 ∧ Grows (ents s g) (ents x g) := by
  have hs := play_valid h
  refine ⟨hs, play_valid h', ?_⟩
  unfold playS at h h'
  split at h
  · cases h
  · split at h'
    · cases h'
    · rw [playGo_append l m h] at h'
      have := playGo_grows g m hs
      rwa [h'] at this
theorem Grows.digs {A B : List Ent} (h : Grows A B) : (B.map (·.dig)).take A.length = A.map (·.dig) := by
  apply List.ext_getElem?
  intro j
  by_cases hj : j < A.length
  · rw [List.getElem?_take_of_lt hj, List.getElem?_map, List.getElem?_map, List.getElem?_eq_getElem hj]
    obtain ⟨e', h1, _, h3, _⟩ := h.2 j _ (List.getElem?_eq_getElem hj)
    rw [h1]
    simp [h3]
  · rw [List.getElem?_eq_none (by rw [List.length_take]; omega), List.getElem?_eq_none (by simp; omega)]
theorem step_same (s : St) (x : Stp) : (stepS s x).id = s.id ∧ (stepS s x).priv = s.priv := by
  unfold stepS
  split
  · split
    · rename_i h
      unfold delS at h ⊢
      split at h
      · rename_i ho
        rw [if_pos ho]
        split at h
        · rename_i hr
          rw [if_pos hr]
          split at h
          · rename_i e he
            split at h
            · rename_i hk
              simp only [hk, if_true]
              exact ⟨rfl, rfl⟩
            · cases h
          · cases h
        · cases h
      · rename_i ho; exact absurd h ho
    · exact ⟨rfl, rfl⟩
  · split
    · rename_i h
      unfold putS at h ⊢
      split at h
      · rename_i ho
        rw [if_pos ho]
        split at h
        · rename_i hk
          rw [if_pos hk]
          split at h
          · rename_i hi
            rw [if_pos hi]
            exact ⟨rfl, rfl⟩
          · rename_i hi
            rw [if_neg hi]
            split at h
            · cases h
            · rename_i hl
              rw [if_neg hl]
              exact ⟨rfl, rfl⟩
        · cases h
      · rename_i ho; exact absurd h ho
    · exact ⟨rfl, rfl⟩
theorem playGo_same : ∀ (l : List Stp) (s : St), (playGo s l).1.id = s.id ∧ (playGo s l).1.priv = s.priv
  | [], _ => ⟨rfl, rfl⟩
  | x :: r, s => by
    unfold playGo
    split
    · exact ⟨rfl, rfl⟩
    · have h := playGo_same r (stepS s x)
      have h2 := step_same s x
      exact ⟨h.1.trans h2.1, h.2.trans h2.2⟩
theorem play_same {l : List Stp} {s : St} (h : playS l = (s, true)) : s.id = 2 ∧ s.priv = 5 := by
  unfold playS at h
  split at h
  · cases h
  · have := playGo_same l newSt
    rw [h] at this
    exact this
end Go.Sto
namespace Go.Proofs.YtgfmdjagamjpbaaDoor
open Go.RowKit Go.Mem
open Go.Sto (Stp)
theorem infoSt : (Tryd.prog.info? 58).map (fun i => (i.zero.map (·.cells.size), i.size, i.bytes)) = some (some 4, 4, 48) := by kernel_rfl
theorem info_partsS : ∃ i0, Tryd.prog.info? 58 = some i0 ∧ (∃ z, i0.zero = some z ∧ z.cells.size = 4) ∧ i0.size = 4 ∧ i0.bytes = 48 := by
  have h := infoSt
  cases hq : Tryd.prog.info? 58 with
  | none => rw [hq] at h; simp at h
  | some i =>
    rw [hq] at h
    simp only [Option.map_some, Option.some.injEq, Prod.mk.injEq, Option.map_eq_some_iff] at h
    exact ⟨i, rfl, h.1, h.2.1, h.2.2⟩
/-- an owned row of steps; what they point to is as it was in w0. -/
def OwnS (w0 W : World) (v : Value) (l : List Stp) : Prop := ∃ rows, W.ownsRow w0.heap.size 58 4 v l.length rows.flatten ∧ RowsOf 4 (TV w0) l rows
theorem OwnS.ss {w0 W : World} {v : Value} {l : List Stp} (h : OwnS w0 W v l) (hb : Below w0.heap.size w0 W) : ∃ a c, v = .slice a l.length c ∧ SS W a l.length c l := by
  obtain ⟨rows, ho, hR⟩ := h
  obtain ⟨a, c, rfl, hr, _⟩ := Sl.of_owns ho
  exact ⟨a, c, rfl, rfl, fun _ _ _ => trivial, rows, hr, hR.imp fun _ _ ⟨h1, h2, h3, a, n, c, e, h4⟩ => ⟨h1, h2, h3, a, n, c, e, h4.below hb⟩⟩
theorem TV.one {w : World} {x : Stp} {r : List Value} (h : TV w x r) : ∀ u ∈ r, u.oneCell' = true := by
  obtain ⟨_, _, _, a, n, c, rfl, _⟩ := h
  exact stpC_one _ _ _ _
theorem append_st {w0 W : World} {v : Value} {l : List Stp} (ho : OwnS w0 W v l) (hb0 : Below w0.heap.size w0 W) {a : Option Addr} {n c : Nat} {l' : List Stp} (H : SS w0 a n c l') (hn : l.length + n ≤ 1000000000000) :
    ∃ v' W', (∀ ty, (Builtin.append_ #[22, 22] ty #[v, .slice a n c]).run Tryd.prog W = .ok v' W') ∧ OwnS w0 W' v' (l ++ l') ∧ Below w0.heap.size w0 W' := by
  obtain ⟨i0, hi, ⟨z, hz0, hzs⟩, hz1, hz2⟩ := info_partsS
  obtain ⟨rows, hown, hR⟩ := ho
  obtain ⟨rows', hr', hR'⟩ := H.rows
  have hln := H.len
  cases a with
  | none =>
    obtain ⟨rfl, rfl⟩ := hr'.nil rfl
    have hl : l' = [] := List.eq_nil_of_length_eq_zero hln
    subst hl
    refine ⟨v, W, fun ty => ?_, by rw [List.append_nil]; exact ⟨rows, hown, hR⟩, hb0⟩
    rcases hown.2 with ⟨rfl, h0⟩ | ⟨g, cap, cur, rfl, _, _, hnc, _, _, _⟩
    · simp [Builtin.append_, run_underlying Tryd.underlying22, sizeOf, typeInfo, hi, Builtin.lenOf, Builtin.firstCells]
    · simp [Builtin.append_, run_underlying Tryd.underlying22, sizeOf, typeInfo, hi, Builtin.lenOf, Builtin.firstCells, storeCells, hnc]
  | some ad =>
    have hnews : ∀ j u, rows'.flatten[j]? = some u → W.cell? (ad.add j) = some u := by
      intro j u hj
      have hjl := (List.getElem?_eq_some_iff.1 hj).1
      rw [hr'.len] at hjl
      obtain ⟨b, off, e, hb, hc⟩ := hr'.cells (by omega)
      cases e
      rw [Addr.add_lit]
      exact (hb0.cell (p := ⟨b, off + j, none⟩) hb).trans (hc j u hj)
    have hone : ∀ u ∈ rows'.flatten, u.oneCell' = true := by
      intro u hu
      obtain ⟨r, hr, hu⟩ := List.mem_flatten.1 hu
      obtain ⟨i, hi⟩ := List.mem_iff_getElem?.1 hr
      have hil := (List.getElem?_eq_some_iff.1 hi).1
      rw [hR'.len] at hil
      exact (hR'.each i _ r (List.getElem?_eq_getElem hil) hi).one u hu
    obtain ⟨v', w', hr, h2, h3, _⟩ := run_append_own (P := Tryd.prog) W w0.heap.size 22 0 58 i0 z 4 48 Tryd.underlying22 hi hz0 hz1 hz2 hzs (by omega) v l.length rows.flatten hown ad n c rows'.flatten hr'.len hnews hone (by unfold maxLen; omega) (by omega) hb0.size
    refine ⟨v', w', fun ty => ?_, ⟨rows ++ rows', ?_, hR.append hR'⟩, hb0.grown h3 hb0.size (fun r e => (World.ownsRow.lt hown r e).1)⟩
    · rw [← hr]; rfl
    · rw [List.flatten_append, List.length_append, hln]; exact h2
end Go.Proofs.YtgfmdjagamjpbaaDoor
namespace Go
variable {P : Program}
theorem wpList_buildSlice_run {ops : Array Oper} {rest : List Oper} {op : Oper} {a : Act} {w w' : World} {Q : Exit → Act → World → Prop} {v : Value} (hgd : op.guard = none) (t : TypeId) (k : Nat) (parts : Array (Nat × Operand)) (ho : op.op = .buildSlice t k parts) (ps : Array (Nat × Value)) (hp : (parts.map fun (i, x) => (i, a.eval x)) = ps) (hr : (Instr.buildSlice t k ps).run P w = .ok v w')
    (h : wpList P ops Q rest (a.put op.dst v) w') : wpList P ops Q (op :: rest) a w :=
  wpList_plain hgd fun _ hK => by
    unfold Oper.wp execOp
    simp only [ho, hp, Sem.run_bind, hr, Result.andThen_ok, Sem.run_pure]
    exact hK _ _ h
end Go
namespace Go.Proofs.YtgfmdjagamjpbaaDoor
open Go.RowKit Go.Mem
/-- an owned row of digests. -/
def OwnD (w0 W : World) (v : Value) (ds : List (List Nat)) : Prop := W.ownsRow w0.heap.size 35 32 v ds.length (digRows (ds.map fD)) ∧ ∀ x ∈ ds, x.length = 32 ∧ ∀ u ∈ x, u < 256
theorem OwnD.ds {w0 W : World} {v : Value} {ds : List (List Nat)} (h : OwnD w0 W v ds) : ∃ a c, v = .slice a ds.length c ∧ DS W a ds.length c ds := DS.own h.2 h.1
theorem dig_slice1 {d : List Nat} (hd : d.length = 32) (W : World) : (Instr.buildSlice 45 1 #[(0, .agg (bv d).toArray)]).run Tryd.prog W = .ok (.slice (some ⟨W.heap.size, 0, none⟩) 1 1) (W.alloc (.cells (bv d).toArray 35)) := by
  have h := digs_row (fD d) W
  rwa [rD_fD hd] at h
theorem append_dg {w0 W : World} {v : Value} {ds : List (List Nat)} {d : List Nat} (ho : OwnD w0 W v ds) (hb0 : Below w0.heap.size w0 W) (hd : d.length = 32 ∧ ∀ u ∈ d, u < 256) (hn : ds.length + 1 ≤ 1000000000000) :
    ∃ v' W', (∀ ty, (Builtin.append_ #[45, 45] ty #[v, .slice (some ⟨W.heap.size, 0, none⟩) 1 1]).run Tryd.prog (W.alloc (.cells (bv d).toArray 35)) = .ok v' W') ∧ OwnD w0 W' v' (ds ++ [d]) ∧ Below w0.heap.size w0 W' := by
  obtain ⟨i0, hi, ⟨z, hz0, hzs⟩, hz1, hz2⟩ := info_partsD
  have hown := World.ownsRow.alloc ho.1 (.cells (bv d).toArray 35)
  have hba := hb0.alloc hb0.size (.cells (bv d).toArray 35)
  have hB := Blk.new W 35 (bv d)
  obtain ⟨v', w', hr, h2, h3, _⟩ := run_append_own (P := Tryd.prog) (W.alloc (.cells (bv d).toArray 35)) w0.heap.size 45 0 35 i0 z 32 32 Tryd.underlying45 hi hz0 hz1 hz2 hzs (by omega) v ds.length (digRows (ds.map fD)) hown ⟨W.heap.size, 0, none⟩ 1 1 (bv d) (by rw [bv_length, hd.1]) (fun j u hj => by rw [Addr.add_lit, Nat.zero_add]; exact hB.at_ hj) (bv_one d) (by unfold maxLen; omega) (by omega) hba.size
  refine ⟨v', w', fun ty => ?_, ⟨?_, ?_⟩, hba.grown h3 hba.size (fun r e => (World.ownsRow.lt hown r e).1)⟩
  · rw [← hr]; rfl
  · rw [List.map_append, List.map_cons, List.map_nil, digRows_snoc, rD_fD hd.1, List.length_append]
    exact h2
  · intro x hx
    rcases List.mem_append.1 hx with hx | hx
    · exact ho.2 x hx
    · rw [List.mem_singleton] at hx; subst hx; exact hd
theorem DS.take {W : World} {a : Option Addr} {n c k : Nat} {l : List (List Nat)} (h : DS W a n c l) (hk : k ≤ n) : DS W a k c (l.take k) := by
  refine ⟨by rw [List.length_take, h.len]; omega, by have := h.le; omega, h.max, fun e => by have := h.nil e; omega, fun ad e => ?_, fun x hx => h.ok x (List.mem_of_mem_take hx)⟩
  obtain ⟨b, off, e1, hb, hc⟩ := h.cells ad e
  refine ⟨b, off, e1, hb, fun i x hx => hc i x ?_⟩
  have hi : i < k := by have := (List.getElem?_eq_some_iff.1 hx).1; rw [List.length_take] at this; omega
  rwa [List.getElem?_take_of_lt hi] at hx
theorem elemD : Tryd.prog.underlying 45 = some (.slice (Tryd.prog.elem 45)) := by kernel_rfl
theorem sizeOfD (W : World) : (sizeOf (Tryd.prog.elem 45)).run Tryd.prog W = .ok 32 W := by kernel_rfl
theorem dslice_h {W0 : World} {a : Option Addr} {n c k : Nat} {l : List (List Nat)} (h : DS W0 a n c l) (hk : k ≤ n) (W : World) :
    (Instr.sliceAt 45 (.slice a n c) none (some (.int .i64 (k : Int))) none).run Tryd.prog W = .ok (.slice a k c) W := by
  have hle := h.le
  rw [run_sliceAt_slice _ _ _ _ _ _ elemD, run_slice_h _ _ a n c elemD .i64 (k : Int) (by omega) (by omega), sizeOfD, Result.andThen_ok]
  unfold sliced
  simp only [Int.toNat_natCast, Nat.sub_zero, Nat.zero_mul]
  cases a with
  | none => simp
  | some ad =>
    have : ad.add 0 = ad := by unfold Addr.add; cases ad; simp
    simp [this]
theorem dslice_l {W0 : World} {a : Option Addr} {n c k : Nat} {l : List (List Nat)} (h : DS W0 a n c l) (hk : k ≤ n) :
    ∃ a', (∀ W, (Instr.sliceAt 45 (.slice a n c) (some (.int .i64 (k : Int))) none none).run Tryd.prog W = .ok (.slice a' (n - k) (c - k)) W) ∧ DS W0 a' (n - k) (c - k) (l.drop k) := by
  have hle := h.le
  refine ⟨if c = k then a else a.map (·.add (k * 32)), fun W => ?_, ?_⟩
  · rw [run_sliceAt_slice _ _ _ _ _ _ elemD, run_slice_l _ _ a n c elemD .i64 (k : Int) (by omega) (by omega), sizeOfD, Result.andThen_ok]
    unfold sliced
    rw [Int.toNat_natCast]
  · refine ⟨by rw [List.length_drop, h.len], by omega, by have := h.max; omega, fun e => ?_, fun ad e => ?_, fun x hx => h.ok x (List.mem_of_mem_drop hx)⟩
    · cases a with
      | none => have := h.nil rfl; omega
      | some ad => split at e <;> cases e
    · cases a with
      | none => split at e <;> cases e
      | some ad0 =>
        obtain ⟨b, off, rfl, hb, hc⟩ := h.cells _ rfl
        by_cases hck : c = k
        · rw [if_pos hck] at e
          cases e
          refine ⟨b, off, rfl, hb, fun i x hx => ?_⟩
          rw [List.drop_eq_nil_of_le (by rw [h.len]; omega)] at hx
          cases hx
        · rw [if_neg hck] at e
          simp only [Option.map_some, Option.some.injEq, Addr.add_lit] at e
          subst e
          refine ⟨b, off + k * 32, rfl, hb, fun i x hx => ?_⟩
          rw [List.getElem?_drop] at hx
          have := hc _ x hx
          rwa [show off + k * 32 + 32 * i = off + 32 * (k + i) by omega]
end Go.Proofs.YtgfmdjagamjpbaaDoor
namespace Go.Proofs.YtgfmdjagamjpbaaDoor
open Go.ChangeShapes Go.WideShapes Go.ChangeAt Go.RowKit Go.Joins Go.Mem
open Go.Sto (Stp)

theorem cellsStp : Tryd.prog.cellsOf 58 = 4 := by kernel_rfl
theorem cellsSl : Tryd.prog.cellsOf 46 = 1 := by kernel_rfl
section
variable {H : Type} {enc : TypeId × Value → H} {W : World}
theorem open_u8 {fuel : Nat} {cs : List Value} {x : DataW H × List MemPlace} (h : DataW.trod enc Tryd.prog W 0 (fun _ => true) true fuel 5 cs = some x) : ∃ y : Nat, cs = [.int .u8 (y : Int)] ∧ y < 256 := by
  obtain ⟨a, e0, _, w0⟩ := DataW.trod_int Tryd.underlying5 h
  have hb : 0 ≤ a ∧ a < 256 := by
    have h2 : IntKind.u8.min ≤ a ∧ a ≤ IntKind.u8.max := by simpa [Lit.wf] using w0
    have e1 : IntKind.u8.min = 0 := rfl
    have e2 : IntKind.u8.max = 255 := rfl
    omega
  exact ⟨a.toNat, by rw [e0, Int.toNat_of_nonneg hb.1], by omega⟩
theorem open_bytes' {fuel : Nat} {cs : List Value} {x : DataW H × List MemPlace} (h : DataW.trod enc Tryd.prog W 0 (fun _ => true) true fuel 46 cs = some x) : ∃ a n c l, cs = [.slice a n c] ∧ BW W a n c l := by
  rcases Deep.open_slice Tryd.underlying46 h with ⟨rfl, _⟩ | ⟨ad, len, cap, m, k, D, Pl, rfl, hb, hl, hm, hmm, _, hx⟩
  · exact ⟨none, 0, 0, [], rfl, .inl ⟨rfl, Nat.le_refl _, by decide, fun _ => ⟨rfl, rfl⟩, (fun ad e => by cases e), (fun x hx => by cases hx)⟩⟩
  · simp at hmm
    subst hmm
    rw [cellsU8] at hx
    by_cases h0 : m = 0
    · subst h0
      obtain rfl : len = 0 := by omega
      exact ⟨some ad, 0, 0, [], rfl, .inr ⟨rfl, rfl, rfl, ad, rfl⟩⟩
    · have each : ∀ i, i < m → ∃ y : Nat, W.cell? (ad.add i) = some (.int .u8 (y : Int)) ∧ y < 256 := by
        intro i hi
        obtain ⟨cs', h1, h2⟩ := hx i hi
        rw [Nat.mul_one] at h1
        obtain ⟨_, hlen, hcell⟩ := World.cells?_some h1
        obtain ⟨y, rfl, hy⟩ := open_u8 h2
        have e0 := hcell 0 (by omega)
        have z : ∀ q : Addr, q.add 0 = q := fun q => by unfold Addr.add; cases q; simp
        rw [z] at e0
        exact ⟨y, by simpa using e0, hy⟩
      obtain ⟨T, hT⟩ := Deep.choose_lt each
      obtain ⟨b, off, spot⟩ := ad
      have c0 := (hT 0 (by omega)).1
      have hspot : spot = none := by simpa [Addr.add] using World.cell?_spot c0
      subst hspot
      have hbl : b < W.heap.size := World.block_lt_of_cell? W _ (by simpa [Addr.add] using c0)
      refine ⟨_, len, m, (List.range len).map T, rfl, .inl ⟨by simp, hl, by unfold maxLen at hm; omega, (fun e => by cases e), fun ad e => ?_, fun y hy => ?_⟩⟩
      · cases e
        refine ⟨b, off, rfl, hbl, fun i y hy => ?_⟩
        have hi : i < len := by have := (List.getElem?_eq_some_iff.1 hy).1; simpa using this
        have hti : y = T i := by rw [List.getElem?_map, List.getElem?_range hi] at hy; simpa using hy.symm
        subst hti
        have g0 := (hT i (by omega)).1
        rwa [Addr.add_lit] at g0
      · obtain ⟨i, hi, rfl⟩ := List.mem_map.1 hy
        exact (hT i (by have := List.mem_range.1 hi; omega)).2

theorem open_step {fuel : Nat} {cs : List Value} {x : DataW H × List MemPlace} (h : DataW.trod enc Tryd.prog W 0 (fun _ => true) true fuel 58 cs = some x) : ∃ s : Stp, TV W s cs ∧ cs.length = 4 := by
  obtain ⟨xs, n, _, rfl, hl, hlen, hf⟩ := DataW.trod_struct Tryd.underlying58 h
  rw [cellsStp] at hl
  match xs, hlen with
  | [y0, y1, y2, y3], _ =>
    have h0 : DataW.trod enc Tryd.prog W 0 (fun _ => true) true n 3 ((cs.drop 0).take (Tryd.prog.cellsOf 3)) = some y0 := hf 0 _ rfl
    rw [cellsInt] at h0
    have h1 : DataW.trod enc Tryd.prog W 0 (fun _ => true) true n 3 ((cs.drop 1).take (Tryd.prog.cellsOf 3)) = some y1 := hf 1 _ rfl
    rw [cellsInt] at h1
    have h2 : DataW.trod enc Tryd.prog W 0 (fun _ => true) true n 3 ((cs.drop 2).take (Tryd.prog.cellsOf 3)) = some y2 := hf 2 _ rfl
    rw [cellsInt] at h2
    have h3 : DataW.trod enc Tryd.prog W 0 (fun _ => true) true n 46 ((cs.drop 3).take (Tryd.prog.cellsOf 46)) = some y3 := hf 3 _ rfl
    rw [cellsSl] at h3
    obtain ⟨fo, e0, i0⟩ := open_int1 h0
    obtain ⟨ki, e1, i1⟩ := open_int1 h1
    obtain ⟨no, e2, i2⟩ := open_int1 h2
    obtain ⟨a, dn, dc, data, e3, hB⟩ := open_bytes' h3
    refine ⟨⟨fo, ki, no, data⟩, ⟨i0, i1, i2, a, dn, dc, ?_, hB⟩, hl⟩
    have q4 : cs.drop 4 = [] := List.drop_eq_nil_of_le (by omega)
    have q3 : cs.drop 3 = [.slice a dn dc] := by rw [drop_parts cs 3 1 4 rfl, e3, q4]; rfl
    have q2 : cs.drop 2 = [.int .i64 no] ++ [.slice a dn dc] := by rw [drop_parts cs 2 1 3 rfl, e2, q3]
    have q1 : cs.drop 1 = [.int .i64 ki] ++ ([.int .i64 no] ++ [.slice a dn dc]) := by rw [drop_parts cs 1 1 2 rfl, e1, q2]
    have q0 : cs.drop 0 = [.int .i64 fo] ++ ([.int .i64 ki] ++ ([.int .i64 no] ++ [.slice a dn dc])) := by rw [drop_parts cs 0 1 1 rfl, e0, q1]
    exact q0

theorem open_steps {a : Option Addr} {n c : Nat} {d : DataW H} {p : List MemPlace} (h : DataW.Trod enc Tryd.prog W 0 (fun _ => true) true 22 (.slice a n c) d p) : ∃ l, SS W a n c l := by
  obtain ⟨fuel, hf⟩ := h
  have hf' : DataW.trod enc Tryd.prog W 0 (fun _ => true) true fuel 22 [.slice a n c] = some (d, p) := by simpa [Value.cells] using hf
  rcases Deep.open_slice Tryd.underlying22 hf' with ⟨hcs, _⟩ | ⟨ad, len, cap, m, k, D, Pl, hcs, hb, hl, hm, hmm, _, hx⟩
  · simp at hcs
    obtain ⟨rfl, rfl, rfl⟩ := hcs
    exact ⟨[], RS.nil0 _ _ _⟩
  · simp at hcs
    obtain ⟨rfl, rfl, rfl⟩ := hcs
    simp at hmm
    subst hmm
    rw [cellsStp] at hx
    have each : ∀ i, i < m → ∃ q : Stp × List Value, (∀ j u, q.2[j]? = some u → W.cell? ((ad.add (i * 4)).add j) = some u) ∧ TV W q.1 q.2 ∧ q.2.length = 4 := by
      intro i hi
      obtain ⟨cs', h1, h2⟩ := hx i hi
      obtain ⟨_, hlen, hcell⟩ := World.cells?_some h1
      obtain ⟨s, hs, hl4⟩ := open_step h2
      refine ⟨(s, cs'), fun j u hu => ?_, hs, hl4⟩
      have hj := (List.getElem?_eq_some_iff.1 hu).1
      have := hcell j (by rw [← hlen]; exact hj)
      rw [this]
      simpa using hu
    have : Inhabited (Stp × List Value) := ⟨(⟨0, 0, 0, []⟩, [])⟩
    obtain ⟨T, hT⟩ := Deep.choose_lt each
    have hrs : ∀ r ∈ (List.range n).map (fun i => (T i).2), r.length = 4 := fun r hr => by
      obtain ⟨i, hi, rfl⟩ := List.mem_map.1 hr
      exact (hT i (by have := List.mem_range.1 hi; omega)).2.2
    refine ⟨(List.range n).map (fun i => (T i).1), by simp, fun _ _ _ => trivial, (List.range n).map (fun i => (T i).2), ⟨?_, hl, hm, (fun e => by cases e), fun hn => ?_⟩, ⟨by simp, hrs, fun i e r he hr => ?_⟩⟩
    · rw [flat_len hrs]; simp
    · obtain ⟨b, off, spot⟩ := ad
      have hrow : ∀ i, i < n → ∀ j, j < 4 → ∃ u, (T i).2[j]? = some u := fun i hi j hj => ⟨_, List.getElem?_eq_getElem (by rw [(hT i (by omega)).2.2]; exact hj)⟩
      obtain ⟨u0, hu0⟩ := hrow 0 hn 0 (by omega)
      have c0 := (hT 0 (by omega)).1 0 u0 hu0
      have hspot : spot = none := by simpa [Addr.add] using World.cell?_spot c0
      subst hspot
      have hbl : b < W.heap.size := World.block_lt_of_cell? W _ (by simpa [Addr.add] using c0)
      refine ⟨b, off, rfl, hbl, fun j u hj => ?_⟩
      have hjl := (List.getElem?_eq_some_iff.1 hj).1
      rw [flat_len hrs] at hjl
      simp only [List.length_map, List.length_range] at hjl
      have hi : j / 4 < n := by omega
      obtain ⟨v, hv⟩ := hrow (j / 4) hi (j % 4) (by omega)
      have hg := flat_get (i := j / 4) (j := j % 4) hrs (r := (T (j / 4)).2) (by simp [hi]) hv
      rw [show j / 4 * 4 + j % 4 = j by omega, hj] at hg
      cases hg
      have := (hT (j / 4) (by omega)).1 _ _ hv
      rw [Addr.add_lit, Addr.add_lit] at this
      rw [show off + j = off + j / 4 * 4 + j % 4 by omega]
      exact this
    · have hi : i < n := by have := (List.getElem?_eq_some_iff.1 he).1; simpa using this
      rw [List.getElem?_map, List.getElem?_range hi] at he hr
      simp at he hr
      subst he hr
      exact (hT i (by omega)).2.1
end
end Go.Proofs.YtgfmdjagamjpbaaDoor
namespace Go.Proofs.YtgfmdjagamjpbaaDoor
open Go.RowKit Go.Mem
open Go.Sto (Ent Lg St Stp)

theorem ownS_empty (W : World) : OwnS W (W.alloc (.cells #[] 58)) (.slice (some ⟨W.heap.size, 0, none⟩) 0 0) [] :=
  ⟨[], ⟨by simp, .inr ⟨W.heap.size, 0, #[], rfl, Nat.le_refl _, Blk.new W 58 [], Nat.le_refl _, by decide, rfl, rfl⟩⟩, RowsOf.nil⟩
theorem ownD_empty (W : World) : OwnD W (W.alloc (.cells #[] 35)) (.slice (some ⟨W.heap.size, 0, none⟩) 0 0) [] :=
  ⟨⟨by simp [digRows], .inr ⟨W.heap.size, 0, #[], rfl, Nat.le_refl _, Blk.new W 35 [], Nat.le_refl _, by decide, rfl, rfl⟩⟩, fun x hx => by cases hx⟩

/-- what the loops keep: the two logs, the head's box. -/
structure ChW (w w12 : World) (a11 : Option Addr) (c11 : Nat) (A : List Ent) (a13 : Option Addr) (c13 : Nat) (B : List Ent) (g : Nat) (r : List Value) (wr : World) : Prop where
  eA : ES (fun _ => True) wr a11 A.length c11 A
  eB : ES (fun _ => True) wr a13 B.length c13 B
  bx : Blk wr g 39 r
  bel : Below w.heap.size w wr
  bl2 : Below w12.heap.size w12 wr
theorem ChW.next {w w12 : World} {a11 : Option Addr} {c11 : Nat} {A : List Ent} {a13 : Option Addr} {c13 : Nat} {B : List Ent} {g : Nat} {r : List Value} {wr wq : World} (h : ChW w w12 a11 c11 A a13 c13 B g r wr) (hb : Below wr.heap.size wr wq) : ChW w w12 a11 c11 A a13 c13 B g r wq :=
  ⟨h.eA.below hb, h.eB.below hb, h.bx.below hb h.bx.lt, h.bel.trans (hb.mono h.bel.size), h.bl2.trans (hb.mono h.bl2.size)⟩
theorem MsgS.of' {w : World} {tb : Nat} {st fo no R S : Int} {D : List Nat} {r : List Value} (hr : HeadR st fo no R S D r) (h : Blk w tb 39 r) : w.rangeAt tb 3 (bv D) := by
  intro j v hv
  refine h.at_ ?_
  rw [← hr.eq]
  unfold headC
  have hj := (List.getElem?_eq_some_iff.1 hv).1
  rw [List.getElem?_append_right (by simp), List.getElem?_append_left (by simp; omega)]
  simpa using hv
theorem ChW.at' {w w12 : World} {a11 : Option Addr} {c11 : Nat} {A : List Ent} {a13 : Option Addr} {c13 : Nat} {B : List Ent} {g : Nat} {r : List Value} {wq : World} (h : ChW w w12 a11 c11 A a13 c13 B g r w12) (hb : Below w12.heap.size w12 wq) : ChW w w12 a11 c11 A a13 c13 B g r wq := h.next hb
/-- what the last loop keeps: the box of the chain's end. -/
structure ChzW (w w13 : World) (g : Nat) (E : List Nat) (wr : World) : Prop where
  bx : Blk wr g 35 (bv E)
  bel : Below w.heap.size w wr
  bl : Below w13.heap.size w13 wr
  ge : w13.heap.size ≤ g
theorem ChzW.next {w w13 : World} {g : Nat} {E : List Nat} {wr wq : World} (h : ChzW w w13 g E wr) (hb : Below wr.heap.size wr wq) : ChzW w w13 g E wq := ⟨h.bx.below hb h.bx.lt, h.bel.trans (hb.mono h.bel.size), h.bl.trans (hb.mono h.bl.size), h.ge⟩
theorem ChzW.drew {w w13 : World} {g : Nat} {E : List Nat} {wr : World} (h : ChzW w w13 g E wr) : ChzW w w13 g E wr.drew := h.next (Below.refl _ wr).drew
theorem ChzW.mk' {w w13 : World} {g : Nat} {E : List Nat} {wr : World} (h : ChzW w w13 g E wr) : wr.rangeAt g 0 (bv E) ∧ ChzW w w13 g E wr := ⟨h.bx.range, h⟩
theorem OwnD.below {w0 W W2 : World} {v : Value} {ds : List (List Nat)} (h : OwnD w0 W v ds) (_hb0 : Below w0.heap.size w0 W) (hb : Below W.heap.size W W2) : OwnD w0 W2 v ds := by
  refine ⟨⟨h.1.1, ?_⟩, h.2⟩
  rcases h.1.2 with ⟨e, h0⟩ | ⟨g, cap, cur, e, h1, h2, h3⟩
  · exact .inl ⟨e, h0⟩
  · exact .inr ⟨g, cap, cur, e, h1, (hb.block g (Array.getElem?_eq_some_iff.1 h2).1).trans h2, h3⟩

set_option maxRecDepth 100000 in
set_option maxHeartbeats 16000000 in
theorem chains_walk (a0 : Option Addr) (n0 c0 : Nat) (l0 : List Stp) (a1 : Option Addr) (n1 c1 : Nat) (l1 : List Stp) (fo : Int) (hf : I64 fo) (w : World) (HT : Tabs w) (H0 : SS w a0 n0 c0 l0) (H1 : SS w a1 n1 c1 l1) (hsz : n0 + n1 ≤ 1000000000) :
    Calls Tryd.prog 3 #[.slice a0 n0 c0, .slice a1 n1 c1, .int .i64 fo] w (RetBo true w) := by
  have HT' := Lib.hid HT; have H0' := Lib.hid H0; have H1' := Lib.hid H1
  have hl0 := H0.len
  clear HT H0 H1
  obtain ⟨V, hV⟩ : ∃ V, Hid (Sto.playS l0 = V) := ⟨_, rfl⟩
  have hpl := Lib.hid (fun W hT hS => play_any a0 n0 c0 l0 W hT hS)
  rw [hV.out] at hpl
  obtain ⟨s, ok⟩ := V
  obtain ⟨V2, hV2⟩ : ∃ V, Hid (Sto.playS (l0 ++ l1) = V) := ⟨_, rfl⟩
  have hpm := Lib.hid (fun W a n c hT hS => play_any a n c (l0 ++ l1) W hT hS)
  rw [hV2.out] at hpm
  obtain ⟨x, is⟩ := V2
  obtain ⟨X, hX⟩ : ∃ X, X = RetBo true w := ⟨_, rfl⟩
  have hfin : Hid (∀ W, Below w.heap.size w W → X (.returned (.bool true)) W) := fun W h => by rw [hX]; exact ⟨rfl, h⟩
  rw [← hX]
  clear hX
  go_enter Tryd.func3, Tryd.ntmps3
  go_wp2_with fail
  refine (sane_any _ HT'.out).mono ?_
  rintro e w1 ⟨rfl, hb1⟩
  have hbw := Lib.hid hb1
  clear hb1
  go_wp2_with fail
  refine (hpl.out _ (HT'.out.below hbw.out) (H0'.out.below hbw.out)).mono ?_
  rintro e w2 ⟨a7, c7, rfl, hS, hb⟩
  replace hbw := Lib.hid (hbw.out.trans (hb.mono hbw.out.size))
  clear hb
  have hS7 := Lib.hid hS
  clear hS hpl
  obtain ⟨v2, hP⟩ : ∃ V, Hid (PutR 26 (w2.alloc (.cells ([.int .i64 0, .int .i64 0, .slice none 0 0] : List Value).toArray 26)) V w2.heap.size 26 (stC s a7 s.logs.length c7)) := put_row (Blk.new w2 26 ([.int .i64 0, .int .i64 0, .slice none 0 0])) rfl (sizeSto) (stC_ones _ _ _ _)
  have hst := below_grown ((Below.refl _ w2).alloc (Nat.le_refl _) _) hP.out.grown (by simp) (Nat.le_refl _)
  replace hS7 := Lib.hid (hS7.out.below hst)
  replace hbw := Lib.hid (hbw.out.trans (hst.mono hbw.out.size))
  clear hst
  have hB7 := Lib.hid hP.out.blk
  have hO0 := ownS_empty v2
  have hbe : Below v2.heap.size v2 (v2.alloc (.cells #[] 58)) := (Below.refl _ v2).alloc (Nat.le_refl _) _
  obtain ⟨y3, w3, hr3, hO3, hb3⟩ := append_st hO0 hbe (H0'.out.below hbw.out) (by simp; omega)
  obtain ⟨y4, w4, hr4, hO4, hb4⟩ := append_st hO3 hb3 (H1'.out.below hbw.out) (by simp; omega)
  rw [List.nil_append] at hO4
  obtain ⟨a4, c4, rfl, hSS⟩ := hO4.ss hb4
  obtain ⟨m4, hm4⟩ : ∃ m, Hid ((l0 ++ l1).length = m) := ⟨_, rfl⟩
  rw [hm4.out] at hr4 hSS
  clear hm4
  have hr3' := Lib.hid hr3; have hr4' := Lib.hid hr4; have hSS' := Lib.hid hSS
  clear hO0 hO3 hO4 hr3 hr4 hb3 hSS hbe
  replace hS7 := Lib.hid (hS7.out.below hb4)
  replace hB7 := Lib.hid (hB7.out.below hb4 hB7.out.lt)
  replace hbw := Lib.hid (hbw.out.trans (hb4.mono hbw.out.size))
  clear hb4
  go_wp2_with (first
    | (refine wpList_store_mid (by rfl) 26 (.tmp 7) (.tmp 30) (by rfl) w2.heap.size 0 (stC s a7 s.logs.length c7).toArray (by rfl) (by rfl) hP.out.there hP.out.info (by simpa using hP.out.one) ?_
       generalize hWq : World.setCells _ _ _ _ = Wa
       obtain rfl : v2 = Wa := by rw [← hWq]; exact hP.out.eq
       clear hWq)
    | (at_builtin; refine Lib.wpList_append_run _ rfl _ _ _ _ rfl _ _ rfl rfl _ _ (hr3'.out _) ?_)
    | (at_builtin; refine Lib.wpList_append_run _ rfl _ _ _ _ rfl _ _ rfl rfl _ _ (hr4'.out _) ?_))
  clear hP hr3' hr4'
  refine (hpm.out _ a4 m4 c4 (HT'.out.below hbw.out) hSS'.out).mono ?_
  rintro e w5 ⟨a9, c9, rfl, hS, hb⟩
  clear hpm hSS'
  replace hS7 := Lib.hid (hS7.out.below hb)
  replace hB7 := Lib.hid (hB7.out.below hb hB7.out.lt)
  replace hbw := Lib.hid (hbw.out.trans (hb.mono hbw.out.size))
  clear hb
  have hS9 := Lib.hid hS
  clear hS
  obtain ⟨v5, hP⟩ : ∃ V, Hid (PutR 26 (w5.alloc (.cells ([.int .i64 0, .int .i64 0, .slice none 0 0] : List Value).toArray 26)) V w5.heap.size 26 (stC x a9 x.logs.length c9)) := put_row (Blk.new w5 26 ([.int .i64 0, .int .i64 0, .slice none 0 0])) rfl (sizeSto) (stC_ones _ _ _ _)
  have hst := below_grown ((Below.refl _ w5).alloc (Nat.le_refl _) _) hP.out.grown (by simp) (Nat.le_refl _)
  replace hS7 := Lib.hid (hS7.out.below hst)
  replace hB7 := Lib.hid (hB7.out.below hst hB7.out.lt)
  replace hS9 := Lib.hid (hS9.out.below hst)
  replace hbw := Lib.hid (hbw.out.trans (hst.mono hbw.out.size))
  clear hst
  have hB9 := Lib.hid hP.out.blk
  cases ok with
  | false =>
    go_wp2_with (first
      | (refine wpList_store_mid (by rfl) 26 (.tmp 9) (.tmp 39) (by rfl) w5.heap.size 0 (stC x a9 x.logs.length c9).toArray (by rfl) (by rfl) hP.out.there hP.out.info (by simpa using hP.out.one) ?_
         generalize hWq : World.setCells _ _ _ _ = Wa
         obtain rfl : v5 = Wa := by rw [← hWq]; exact hP.out.eq
         clear hWq))
    exact hfin.out _ hbw.out
  | true =>
    cases is with
    | false =>
      go_wp2_with (first
        | (refine wpList_store_mid (by rfl) 26 (.tmp 9) (.tmp 39) (by rfl) w5.heap.size 0 (stC x a9 x.logs.length c9).toArray (by rfl) (by rfl) hP.out.there hP.out.info (by simpa using hP.out.one) ?_
           generalize hWq : World.setCells _ _ _ _ = Wa
           obtain rfl : v5 = Wa := by rw [← hWq]; exact hP.out.eq
           clear hWq))
      exact hfin.out _ hbw.out
    | true =>
      by_cases hf0 : fo < 0
      · skip
        go_wp2_with (first
          | (refine wpList_store_mid (by rfl) 26 (.tmp 9) (.tmp 39) (by rfl) w5.heap.size 0 (stC x a9 x.logs.length c9).toArray (by rfl) (by rfl) hP.out.there hP.out.info (by simpa using hP.out.one) ?_
             generalize hWq : World.setCells _ _ _ _ = Wa
             obtain rfl : v5 = Wa := by rw [← hWq]; exact hP.out.eq
             clear hWq))
        exact hfin.out _ hbw.out
      · by_cases hf1 : 16 ≤ fo
        · skip
          go_wp2_with (first
            | (refine wpList_store_mid (by rfl) 26 (.tmp 9) (.tmp 39) (by rfl) w5.heap.size 0 (stC x a9 x.logs.length c9).toArray (by rfl) (by rfl) hP.out.there hP.out.info (by simpa using hP.out.one) ?_
               generalize hWq : World.setCells _ _ _ _ = Wa
               obtain rfl : v5 = Wa := by rw [← hWq]; exact hP.out.eq
               clear hWq))
          exact hfin.out _ hbw.out
        · skip
          obtain ⟨hsv, hxv, hgr⟩ := Sto.play_grows hV.out hV2.out fo
          obtain ⟨hid, hpr⟩ := Sto.play_same hV.out
          have hfb : Sto.folderB fo = true := by unfold Sto.folderB; rw [decide_eq_true_iff]; omega
          have hck := Lib.hid (fun W hT hS => Check_any (fun _ => True) a7 s.logs.length c7 s W hT hS)
          have hcx := Lib.hid (fun W hT hS => Check_any (fun _ => True) a9 x.logs.length c9 x W hT hS)
          rw [hsv] at hck
          rw [hxv] at hcx
          have hfa := Lib.hid (fun W hT hS => Fetch_any a7 s.logs.length c7 s fo 1 ⟨by decide, by decide⟩ W hT hS)
          have hfx := Lib.hid (fun W hT hS => Fetch_any a9 x.logs.length c9 x fo 1 ⟨by decide, by decide⟩ W hT hS)
          rw [Sto.fetch_all hsv hfb] at hfa
          rw [Sto.fetch_all hxv hfb] at hfx
          have hAl := Sto.ents_len hsv fo
          have hBl := Sto.ents_len hxv fo
          have hok := signHd_ok s fo (Sto.ents s fo).length ((Sto.ents s fo).map (·.dig)) (by rw [hpr]; decide) (by rw [hid]; decide) hfb hAl
          have hsg := Lib.hid (fun W a c (ho : ∀ e ∈ Sto.ents s fo, OkE e) (hT : Tabs W) hS hE => storeSign_any a7 s.logs.length c7 s fo hf (fun _ => True) a (Sto.ents s fo).length c (Sto.ents s fo) ho hAl W hT hS hE (by rw [Sto.openE_iff]; exact ⟨hsv, hfb⟩))
          have hpub := Lib.hid (fun W => Public_any 5 W)
          rw [publicK_t (by decide)] at hpub
          rw [hpr] at hok
          obtain ⟨pb, hp⟩ : ∃ p, Hid (pubB 4 5 = p) := ⟨_, rfl⟩
          rw [hp.out] at hok hpub
          clear hp
          obtain ⟨r1, hr⟩ : ∃ r, Hid (signHd s fo (Sto.ents s fo).length ((Sto.ents s fo).map (·.dig)) = r) := ⟨_, rfl⟩
          rw [hr.out] at hok hsg
          clear hr
          obtain ⟨⟨R1, S1, hr1⟩, hver⟩ := hok
          have hver' := Lib.hid hver
          clear hver hV hV2 hsv hxv hid hpr hfb
          generalize Sto.ents s fo = A at *
          generalize Sto.ents x fo = B at *
          have l0 := hB7.out.at_ (i := 0) rfl
          have l1 := hB7.out.at_ (i := 1) rfl
          have l2 := hB7.out.at_ (i := 2) rfl
          go_wp2_with (first
            | (refine wpList_store_mid (by rfl) 26 (.tmp 9) (.tmp 39) (by rfl) w5.heap.size 0 (stC x a9 x.logs.length c9).toArray (by rfl) (by rfl) hP.out.there hP.out.info (by simpa using hP.out.one) ?_
               generalize hWq : World.setCells _ _ _ _ = Wa
               obtain rfl : v5 = Wa := by rw [← hWq]; exact hP.out.eq
               clear hWq))
          clear l0 l1 l2 hP
          refine (hck.out _ (HT'.out.below hbw.out) hS7.out).mono ?_
          rintro e w6 ⟨rfl, hb⟩
          replace hS7 := Lib.hid (hS7.out.below hb)
          replace hB7 := Lib.hid (hB7.out.below hb hB7.out.lt)
          replace hS9 := Lib.hid (hS9.out.below hb)
          replace hB9 := Lib.hid (hB9.out.below hb hB9.out.lt)
          replace hbw := Lib.hid (hbw.out.trans (hb.mono hbw.out.size))
          clear hb hck
          have l0 := hB9.out.at_ (i := 0) rfl
          have l1 := hB9.out.at_ (i := 1) rfl
          have l2 := hB9.out.at_ (i := 2) rfl
          go_wp2_with fail
          clear l0 l1 l2
          refine (hcx.out _ (HT'.out.below hbw.out) hS9.out).mono ?_
          rintro e w7 ⟨rfl, hb⟩
          replace hS7 := Lib.hid (hS7.out.below hb)
          replace hB7 := Lib.hid (hB7.out.below hb hB7.out.lt)
          replace hS9 := Lib.hid (hS9.out.below hb)
          replace hB9 := Lib.hid (hB9.out.below hb hB9.out.lt)
          replace hbw := Lib.hid (hbw.out.trans (hb.mono hbw.out.size))
          clear hb hcx
          have l0 := hB7.out.at_ (i := 0) rfl
          have l1 := hB7.out.at_ (i := 1) rfl
          have l2 := hB7.out.at_ (i := 2) rfl
          go_wp2_with fail
          clear l0 l1 l2
          refine (hfa.out _ (HT'.out.below hbw.out) hS7.out).mono ?_
          rintro e w8 ⟨a11, c11, rfl, hE, hb⟩
          replace hS7 := Lib.hid (hS7.out.below hb)
          replace hB7 := Lib.hid (hB7.out.below hb hB7.out.lt)
          replace hS9 := Lib.hid (hS9.out.below hb)
          replace hB9 := Lib.hid (hB9.out.below hb hB9.out.lt)
          replace hbw := Lib.hid (hbw.out.trans (hb.mono hbw.out.size))
          have hE11 : Hid (ES (fun _ => True) w8 a11 A.length c11 A) := hE.imp fun _ _ _ => trivial
          clear hb hfa hE
          have l0 := hB9.out.at_ (i := 0) rfl
          have l1 := hB9.out.at_ (i := 1) rfl
          have l2 := hB9.out.at_ (i := 2) rfl
          go_wp2_with fail
          clear l0 l1 l2
          refine (hfx.out _ (HT'.out.below hbw.out) hS9.out).mono ?_
          rintro e w9 ⟨a13, c13, rfl, hE, hb⟩
          replace hS7 := Lib.hid (hS7.out.below hb)
          replace hB7 := Lib.hid (hB7.out.below hb hB7.out.lt)
          replace hS9 := Lib.hid (hS9.out.below hb)
          replace hB9 := Lib.hid (hB9.out.below hb hB9.out.lt)
          replace hE11 := Lib.hid (hE11.out.below hb)
          replace hbw := Lib.hid (hbw.out.trans (hb.mono hbw.out.size))
          have hE13 : Hid (ES (fun _ => True) w9 a13 B.length c13 B) := hE.imp fun _ _ _ => trivial
          clear hb hfx hE
          have l0 := hB7.out.at_ (i := 0) rfl
          have l1 := hB7.out.at_ (i := 1) rfl
          have l2 := hB7.out.at_ (i := 2) rfl
          go_wp2_with fail
          clear l0 l1 l2
          refine (hsg.out _ a11 c11 (fun e he => ?_) (HT'.out.below hbw.out) hS7.out hE11.out).mono ?_
          · obtain ⟨i, hi⟩ := List.mem_iff_getElem?.1 he
            obtain ⟨_, _, _, _, _, _, ⟨ho, _⟩, _⟩ := hE11.out.rs.get hi
            exact ho
          rintro e w10 ⟨rfl, hb⟩
          replace hS7 := Lib.hid (hS7.out.below hb)
          replace hB7 := Lib.hid (hB7.out.below hb hB7.out.lt)
          replace hS9 := Lib.hid (hS9.out.below hb)
          replace hB9 := Lib.hid (hB9.out.below hb hB9.out.lt)
          replace hE11 := Lib.hid (hE11.out.below hb)
          replace hE13 := Lib.hid (hE13.out.below hb)
          replace hbw := Lib.hid (hbw.out.trans (hb.mono hbw.out.size))
          clear hb hsg hB7 hS7 hB9 hS9
          obtain ⟨v10, hP⟩ : ∃ V, Hid (PutR 39 (w10.alloc (.cells (zeroHd : List Value).toArray 39)) V w10.heap.size 39 (r1)) := put_row (Blk.new w10 39 (zeroHd)) (by rw [hr1.len]; rfl) (by rw [hr1.len]; exact sizeH) (hr1.one)
          have hst := below_grown ((Below.refl _ w10).alloc (Nat.le_refl _) _) hP.out.grown (by simp) (Nat.le_refl _)
          replace hE11 := Lib.hid (hE11.out.below hst)
          replace hE13 := Lib.hid (hE13.out.below hst)
          replace hbw := Lib.hid (hbw.out.trans (hst.mono hbw.out.size))
          clear hst
          have hB15 := Lib.hid hP.out.blk
          go_wp2_with (first
            | (refine wpList_store_mid (by rfl) 39 (.tmp 15) (.tmp 80) (by rfl) w10.heap.size 0 (r1).toArray (by rfl) (by rfl) hP.out.there hP.out.info (by simpa using hP.out.one) ?_
               generalize hWq : World.setCells _ _ _ _ = Wa
               obtain rfl : v10 = Wa := by rw [← hWq]; exact hP.out.eq
               clear hWq))
          clear hP
          refine (hpub.out _).mono ?_
          rintro e w11 ⟨rfl, hb⟩
          replace hE11 := Lib.hid (hE11.out.below hb)
          replace hE13 := Lib.hid (hE13.out.below hb)
          replace hB15 := Lib.hid (hB15.out.below hb hB15.out.lt)
          replace hbw := Lib.hid (hbw.out.trans (hb.mono hbw.out.size))
          clear hb hpub
          have hr1' := Lib.hid hr1
          have hgr' := Lib.hid hgr
          have g1 : decide ((B.length : Int) < (A.length : Int)) = false := decide_eq_false (by have := hgr.1; omega)
          have g2 : decide (B.length < A.length) = false := decide_eq_false (by have := hgr.1; omega)
          have hri : Hid ((Tryd.prog.info? 39).map (·.size) = some r1.length) := by show _ = _; rw [hr1.len]; exact sizeH
          have hu := Tryd.underlying39
          have hno := hB15.out.at_ hr1.at0.2.2
          have hrg := hB15.out.range
          clear hr1 hgr
          go_upto_region 13 with fail
          refine wp_region_list ?_
          repeat
            refine BigFrame.wpList_want (by rfl) (fun K hK => ?_)
            go_simp
            refine hK _ _ ?_
            clear hK K
          refine BigFrame.wpList_want (by rfl) (fun K hK => wp_load_mid 39 (.tmp 15) rfl w10.heap.size 0 rfl r1 _ hrg hu rfl hri.out (hK _ _ ?_))
          clear hK K
          try simp only [Act.put, List.setIfInBounds_toArray, List.set_cons_zero, List.set_cons_succ]
          go_wp2_with fail
          clear hno hrg
          refine (hver'.out _ (HT'.out.below hbw.out)).mono ?_
          rintro e w12 ⟨rfl, hb⟩
          replace hE11 := Lib.hid (hE11.out.below hb)
          replace hE13 := Lib.hid (hE13.out.below hb)
          replace hB15 := Lib.hid (hB15.out.below hb hB15.out.lt)
          replace hbw := Lib.hid (hbw.out.trans (hb.mono hbw.out.size))
          clear hb hver'
          have hO0 := Lib.hid (ownD_empty w12)
          have hbe : Below w12.heap.size w12 (w12.alloc (.cells #[] 35)) := (Below.refl _ w12).alloc (Nat.le_refl _) _
          obtain ⟨g15, hg15⟩ : ∃ g, Hid (w10.heap.size = g) := ⟨_, rfl⟩
          rw [hg15.out] at hB15 ⊢
          have hC0 : Hid (ChW w w12 a11 c11 A a13 c13 B g15 r1 (w12.alloc (.cells #[] 35))) := ⟨hE11.out.below hbe, hE13.out.below hbe, hB15.out.below hbe hB15.out.lt, hbw.out.trans (hbe.mono hbw.out.size), hbe⟩
          have hC12 : Hid (ChW w w12 a11 c11 A a13 c13 B g15 r1 w12) := ⟨hE11.out, hE13.out, hB15.out, hbw.out, Below.refl _ _⟩
          clear hE11 hE13 hB15 hbw hbe
          obtain ⟨dB, hdB⟩ : ∃ d, Hid (B.map (·.dig) = d) := ⟨_, rfl⟩
          go_wp2_with fail
          go_loopw [19, 123] (fun v i wr => ∃ k : Nat, k ≤ B.length ∧ i = .int .i64 k ∧ Hid (OwnD w12 wr v (dB.take k)) ∧ Hid (ChW w w12 a11 c11 A a13 c13 B g15 r1 wr)) (fun _ i _ => B.length - (intOf i).toNat)
          case atStart => exact ⟨0, Nat.zero_le _, rfl, hO0, hC0⟩
          case round =>
            obtain ⟨k, hkm, rfl, hO, hC⟩ := hrel
            clear hO0 hC0
            by_cases hlt : k < B.length
            · have k0 : (0 : Int) ≤ (k : Int) := by omega
              have k1 : (k : Int) < (B.length : Int) := by omega
              have he : B[k]? = some B[k] := List.getElem?_eq_getElem hlt
              generalize B[k] = e at *
              have he' := Lib.hid he
              have hde : Hid (dB.take (k + 1) = dB.take k ++ [e.dig]) := by show _ = _; rw [List.take_add_one, ← hdB.out, List.getElem?_map, he]; rfl
              have hkd : (dB.take k).length ≤ 65536 := by rw [List.length_take]; omega
              obtain ⟨bB, oB, rB, rfl, _, _, ⟨ho, da, dn, dc, er, hbk⟩, hrl, hrg⟩ := hC.out.eB.rs.get he
              have hrg' := Lib.hid hrg
              have hri2 : Hid ((Tryd.prog.info? 48).map (·.size) = some rB.length) := by show _ = _; rw [hrl]; exact sizeE
              obtain ⟨W2, hP0⟩ := put_row (ty := 48) (Blk.new wr 48 (entC ⟨0, List.replicate 32 0, [], false⟩ none 0 0)) (x := rB) (by rw [hrl]; rfl) (by rw [hrl]; exact sizeE) (by rw [er]; exact entC_one _ _ _ _)
              have hP := Lib.hid hP0
              have hst := below_grown ((Below.refl _ wr).alloc (Nat.le_refl _) _) hP0.grown (by simp) (Nat.le_refl _)
              have hC2 := Lib.hid (hC.out.next hst)
              have hO2 := Lib.hid (hO.out.below hC.out.bl2 hst)
              have hE2 : EntB W2 wr.heap.size e da dn dc := by
                have := hP0.blk
                rw [er] at this
                exact EntB.of this ho.dig
              have x0 := hE2.kind
              have x3 := hE2.gone
              have hdr := Lib.hid hE2.dig
              have hdi : Hid ((Tryd.prog.info? 35).map (·.size) = some (bv e.dig).length) := by show _ = _; rw [bv_length, ho.dig]; exact size35
              have hdd := Lib.hid (show e.dig.length = 32 ∧ ∀ u ∈ e.dig, u < 256 from ⟨ho.dig, ho.lt⟩)
              have hap := Lib.hid (fun nq => append_dg (W := W2.drewN nq) (ds := dB.take k) (d := e.dig) hO2.out (below_drewQ hC2.out.bl2 nq) hdd.out (by omega))
              clear hP0 hst hE2 hrg hrl er hbk hC hO ho
              by_cases hka : k < A.length
              · have hka' : (k : Int) < (A.length : Int) := by omega
                have hfa : A[k]? = some A[k] := List.getElem?_eq_getElem hka
                generalize A[k] = f at *
                obtain ⟨e', h1, hkk, hdg, hgg⟩ := hgr'.out.2 k f hfa
                rw [he'.out] at h1
                cases h1
                obtain ⟨bA, oA, rA, rfl, _, _, ⟨hoA, da2, dn2, dc2, erA, _⟩, hrlA, hrgA⟩ := hC2.out.eA.rs.get hfa
                subst erA
                have q1 := EntR.of hrgA hoA.dig
                have y0 := q1.kind
                rw [← hkk] at y0
                have y3 := q1.gone
                have hdA := Lib.hid q1.dig
                rw [← hdg] at hdA
                have heq : ∀ W, (Op.equalIn 10000 35 (.agg (bv e.dig).toArray) (.agg (bv e.dig).toArray)).run Tryd.prog W = .ok true W := fun W => by
                  have := eq_dig (x := e.dig) (y := e.dig) ⟨hdd.out.1, hdd.out.2⟩ ⟨hdd.out.1, hdd.out.2⟩ W
                  rwa [decide_eq_true rfl] at this
                clear q1 hrgA hrlA hoA hkk hdg
                cases hgf : f.gone with
                | true =>
                  rw [hgf] at y3
                  rw [hgg hgf] at x3
                  clear hgf hgg hfa
                  go_wp2_with (first
                    | (refine wpList_load_mid (by rfl) 48 (.tmp 126) (by rfl) bB (oB + k * 35) (by rfl) rB _ hrg'.out Tryd.underlying48 (by rfl) hri2.out ?_)
                    | (refine wpList_store_mid (by rfl) 48 (.tmp 21) (.tmp 127) (by rfl) wr.heap.size 0 rB.toArray (by rfl) (by rfl) hP.out.there hP.out.info (by simpa using hP.out.one) ?_
                       generalize hWq : World.setCells _ _ _ _ = Wa
                       obtain rfl : W2 = Wa := by rw [← hWq]; exact hP.out.eq
                       clear hWq))
                  try simp only [Act.put]
                  refine wp_region_quiet_lit (by kernel_rfl) (by kernel_rfl) ?_
                  repeat (first
                    | go_big_quiet_step (fail)
                    | (go_big_quiet_want
                       refine quiet_load_mid 35 (.tmp 145) rfl bA (oA + k * 35 + 1) (by rfl) (bv e.dig) _ hdA.out Tryd.underlying35 (by rfl) hdi.out ?_
                       simp only [Act.put, List.setIfInBounds_toArray, List.set_cons_zero, List.set_cons_succ]
                       go_big_quiet_on)
                    | (go_big_quiet_want
                       refine quiet_load_mid 35 (.tmp 147) rfl wr.heap.size 1 (by rfl) (bv e.dig) _ hdr.out Tryd.underlying35 (by rfl) hdi.out ?_
                       simp only [Act.put, List.setIfInBounds_toArray, List.set_cons_zero, List.set_cons_succ]
                       go_big_quiet_on))
                  refine wpQuiet_nil ?_
                  rintro _ ⟨nq, rfl⟩
                  clear hdA
                  clear x0 x3 y0 y3 heq
                  obtain ⟨v', W4, hr4, hO4, hb4⟩ := hap.out nq
                  have hr4' := Lib.hid hr4; have hO4' := Lib.hid hO4
                  have hC4 := Lib.hid (hC12.out.at' hb4)
                  have hdr' : Hid ((W2.drewN nq).rangeAt wr.heap.size 1 (bv e.dig)) := hdr.out
                  clear hr4 hO4 hap hC2 hO2 hP hdr
                  go_wp2_with (first
                    | (refine wpList_load_mid (by rfl) 35 (.tmp 165) (by rfl) wr.heap.size 1 (by rfl) (bv e.dig) _ hdr'.out Tryd.underlying35 (by rfl) hdi.out ?_)
                    | (refine wpList_buildSlice_run (by rfl) 45 1 _ rfl #[(0, .agg (bv e.dig).toArray)] (by simp only [List.map_toArray, List.map_cons, List.map_nil]; rfl) (dig_slice1 hdd.out.1 _) ?_)
                    | (at_builtin; refine Lib.wpList_append_run _ rfl _ _ _ _ rfl _ _ rfl rfl _ _ (hr4'.out _) ?_))
                  exact ⟨⟨k + 1, by omega, by go_num, by rw [hde.out]; exact hO4', hC4⟩, by simp [intOf]; omega⟩
                | false =>
                  rw [hgf] at y3
                  clear hgf hgg hfa x3
                  go_wp2_with (first
                    | (refine wpList_load_mid (by rfl) 48 (.tmp 126) (by rfl) bB (oB + k * 35) (by rfl) rB _ hrg'.out Tryd.underlying48 (by rfl) hri2.out ?_)
                    | (refine wpList_store_mid (by rfl) 48 (.tmp 21) (.tmp 127) (by rfl) wr.heap.size 0 rB.toArray (by rfl) (by rfl) hP.out.there hP.out.info (by simpa using hP.out.one) ?_
                       generalize hWq : World.setCells _ _ _ _ = Wa
                       obtain rfl : W2 = Wa := by rw [← hWq]; exact hP.out.eq
                       clear hWq))
                  try simp only [Act.put]
                  refine wp_region_quiet_lit (by kernel_rfl) (by kernel_rfl) ?_
                  repeat (first
                    | go_big_quiet_step (fail)
                    | (go_big_quiet_want
                       refine quiet_load_mid 35 (.tmp 145) rfl bA (oA + k * 35 + 1) (by rfl) (bv e.dig) _ hdA.out Tryd.underlying35 (by rfl) hdi.out ?_
                       simp only [Act.put, List.setIfInBounds_toArray, List.set_cons_zero, List.set_cons_succ]
                       go_big_quiet_on)
                    | (go_big_quiet_want
                       refine quiet_load_mid 35 (.tmp 147) rfl wr.heap.size 1 (by rfl) (bv e.dig) _ hdr.out Tryd.underlying35 (by rfl) hdi.out ?_
                       simp only [Act.put, List.setIfInBounds_toArray, List.set_cons_zero, List.set_cons_succ]
                       go_big_quiet_on))
                  refine wpQuiet_nil ?_
                  rintro _ ⟨nq, rfl⟩
                  clear hdA
                  clear x0 y0 y3 heq
                  obtain ⟨v', W4, hr4, hO4, hb4⟩ := hap.out nq
                  have hr4' := Lib.hid hr4; have hO4' := Lib.hid hO4
                  have hC4 := Lib.hid (hC12.out.at' hb4)
                  have hdr' : Hid ((W2.drewN nq).rangeAt wr.heap.size 1 (bv e.dig)) := hdr.out
                  clear hr4 hO4 hap hC2 hO2 hP hdr
                  go_wp2_with (first
                    | (refine wpList_load_mid (by rfl) 35 (.tmp 165) (by rfl) wr.heap.size 1 (by rfl) (bv e.dig) _ hdr'.out Tryd.underlying35 (by rfl) hdi.out ?_)
                    | (refine wpList_buildSlice_run (by rfl) 45 1 _ rfl #[(0, .agg (bv e.dig).toArray)] (by simp only [List.map_toArray, List.map_cons, List.map_nil]; rfl) (dig_slice1 hdd.out.1 _) ?_)
                    | (at_builtin; refine Lib.wpList_append_run _ rfl _ _ _ _ rfl _ _ rfl rfl _ _ (hr4'.out _) ?_))
                  exact ⟨⟨k + 1, by omega, by go_num, by rw [hde.out]; exact hO4', hC4⟩, by simp [intOf]; omega⟩
              · have hka' : ¬ (k : Int) < (A.length : Int) := by omega
                clear x0 x3
                go_wp2_with (first
                  | (refine wpList_load_mid (by rfl) 48 (.tmp 126) (by rfl) bB (oB + k * 35) (by rfl) rB _ hrg'.out Tryd.underlying48 (by rfl) hri2.out ?_)
                  | (refine wpList_store_mid (by rfl) 48 (.tmp 21) (.tmp 127) (by rfl) wr.heap.size 0 rB.toArray (by rfl) (by rfl) hP.out.there hP.out.info (by simpa using hP.out.one) ?_
                     generalize hWq : World.setCells _ _ _ _ = Wa
                     obtain rfl : W2 = Wa := by rw [← hWq]; exact hP.out.eq
                     clear hWq))
                go_quiet (fail)
                obtain ⟨v', W4, hr4, hO4, hb4⟩ := hap.out nq
                have hr4' := Lib.hid hr4; have hO4' := Lib.hid hO4
                have hC4 := Lib.hid (hC12.out.at' hb4)
                have hdr' : Hid ((W2.drewN nq).rangeAt wr.heap.size 1 (bv e.dig)) := hdr.out
                clear hr4 hO4 hap hC2 hO2 hP hdr
                go_wp2_with (first
                  | (refine wpList_load_mid (by rfl) 35 (.tmp 165) (by rfl) wr.heap.size 1 (by rfl) (bv e.dig) _ hdr'.out Tryd.underlying35 (by rfl) hdi.out ?_)
                  | (refine wpList_buildSlice_run (by rfl) 45 1 _ rfl #[(0, .agg (bv e.dig).toArray)] (by simp only [List.map_toArray, List.map_cons, List.map_nil]; rfl) (dig_slice1 hdd.out.1 _) ?_)
                  | (at_builtin; refine Lib.wpList_append_run _ rfl _ _ _ _ rfl _ _ rfl rfl _ _ (hr4'.out _) ?_))
                exact ⟨⟨k + 1, by omega, by go_num, by rw [hde.out]; exact hO4', hC4⟩, by simp [intOf]; omega⟩
            · obtain rfl : k = B.length := by omega
              have hge : ¬ ((B.length : Nat) : Int) < (B.length : Int) := by omega
              have hlB : dB.length = B.length := by rw [← hdB.out]; simp
              have hO' := hO.out
              rw [List.take_of_length_le (by omega)] at hO'
              obtain ⟨aD, cD, rfl, hDS⟩ := hO'.ds
              rw [hlB] at hDS ⊢
              have hDS' := Lib.hid hDS
              have hAB := hgr'.out.1
              have htk : Hid (dB.take A.length = A.map (·.dig)) := by show _ = _; rw [← hdB.out]; exact hgr'.out.digs
              have hsl := fun W => dslice_h hDS'.out hAB W
              obtain ⟨D0, hD0⟩ : ∃ D, Hid (chainD fo (A.map (·.dig)) = D) := ⟨_, rfl⟩
              have hD32 := chain_len fo (A.map (·.dig))
              have hch := Lib.hid (fun W (hT : Tabs W) (hS : DS W aD A.length cD (dB.take A.length)) => storeChain_any fo hf aD A.length cD (dB.take A.length) W hT hS)
              rw [htk.out, hD0.out] at hch
              have hrD := hr1'.out
              rw [hD0.out] at hD32 hrD
              have hrD' := Lib.hid hrD
              have hfold : Hid ((dB.drop A.length).foldl Sha.chain D0 = chainD fo dB) := by
                show _ = _
                rw [← hD0.out, ← htk.out]
                unfold chainD
                rw [← List.foldl_append, List.take_append_drop]
              have hdsT := Lib.hid (hDS.take hAB)
              rw [htk.out] at hdsT
              clear hDS hO hO' hrD hr1' hgr' htk hD0 hdB
              go_wp2_with fail
              refine (hch.out _ (HT'.out.below hC.out.bel) hdsT.out).mono ?_
              rintro e w13 ⟨rfl, hb⟩
              have hC13 := Lib.hid (hC.out.next hb)
              have hbl13 : Hid (w.heap.size ≤ w13.heap.size) := hC13.out.bel.size
              have hDS13 := Lib.hid (hDS'.out.below hb)
              clear hC hch hdsT hDS' hsl hb hC12
              obtain ⟨W14, hP0⟩ := put_dig (x := D0) (Blk.new w13 35 (bv (List.replicate 32 0))) (by simp) hD32.1
              have hP := Lib.hid hP0
              have hst := below_grown ((Below.refl _ w13).alloc (Nat.le_refl _) _) hP0.grown (by simp) (Nat.le_refl _)
              have hb14 := Lib.hid hst
              have hB22 := Lib.hid hP0.blk
              have hC14 := Lib.hid (hC13.out.next hst)
              obtain ⟨aR, hrl, hDR⟩ := dslice_l hDS13.out hAB
              have hDR' := Lib.hid hDR
              obtain ⟨qn, hqn⟩ : ∃ q, Hid (B.length - A.length = q) := ⟨_, rfl⟩
              rw [hqn.out] at hrl hDR'
              have hrg3 : Hid (W14.rangeAt g15 3 (bv D0)) := (MsgS.of' hrD'.out hC14.out.bx)
              have hr22 := hB22.out.range
              have hdi : Hid ((Tryd.prog.info? 35).map (·.size) = some (bv D0).length) := by show _ = _; rw [bv_length, hD32.1]; exact size35
              have heq : ∀ W, (Op.equalIn 10000 35 (.agg (bv D0).toArray) (.agg (bv D0).toArray)).run Tryd.prog W = .ok true W := fun W => by
                have := eq_dig (x := D0) (y := D0) hD32 hD32 W
                rwa [decide_eq_true rfl] at this
              clear hP0 hst hDR
              obtain ⟨RES, hRES⟩ : ∃ RES, Hid (bv D0 = RES) := ⟨_, rfl⟩
              rw [hRES.out] at hP hB22 hrg3 hr22 hdi heq ⊢
              go_wp2_with (first
                | (refine wpList_store_mid (by rfl) 35 (.tmp 22) (.tmp 175) (by rfl) w13.heap.size 0 RES.toArray (by rfl) (by rfl) hP.out.there hP.out.info (by simpa using hP.out.one) ?_
                   generalize hWq : World.setCells _ _ _ _ = Wa
                   obtain rfl : W14 = Wa := by rw [← hWq]; exact hP.out.eq
                   clear hWq)
                | (refine wpList_load_mid (by rfl) 35 (.tmp 22) (by rfl) w13.heap.size 0 (by rfl) RES _ hr22 Tryd.underlying35 (by rfl) hdi.out ?_)
                | (refine wpList_load_mid (by rfl) 35 (.tmp 177) (by rfl) g15 3 (by rfl) RES _ hrg3.out Tryd.underlying35 (by rfl) hdi.out ?_))
              obtain ⟨g22, hg22⟩ : ∃ g, Hid (w13.heap.size = g) := ⟨_, rfl⟩
              rw [← hRES.out] at hB22 ⊢
              have hZ0 : Hid (ChzW w w13 w13.heap.size D0 W14) := ⟨hB22.out, hC14.out.bel, hb14.out, Nat.le_refl _⟩
              clear hP hB22 hrg3 hr22 hdi heq hRES hC14 hb14 hC13 hri hu
              rw [hg22.out] at hZ0 ⊢
              have hqb : (qn : Int) ≤ 65536 := by have := hqn.out; omega
              have hg0 : Hid (w.heap.size ≤ g22 ∧ w13.heap.size = g22) := ⟨by rw [← hg22.out]; exact hbl13.out, hg22.out⟩
              go_loopw [185] (fun i wr => ∃ (j : Nat) (E : List Nat), j ≤ qn ∧ i = .int .i64 j ∧ Hid (ChzW w w13 g22 E wr) ∧ Hid (E.length = 32 ∧ ∀ u ∈ E, u < 256) ∧ Hid (((dB.drop A.length).drop j).foldl Sha.chain E = chainD fo dB)) (fun i _ => qn - (intOf i).toNat)
              case atStart => exact ⟨0, D0, Nat.zero_le _, rfl, hZ0, hD32, hfold⟩
              case round =>
                obtain ⟨j, E, hj, rfl, hZ, hE, hEf⟩ := hrel
                clear hZ0
                have hdiE : Hid ((Tryd.prog.info? 35).map (·.size) = some (bv E).length) := by show _ = _; rw [bv_length, hE.out.1]; exact size35
                by_cases hlt : j < qn
                · have j0 : (0 : Int) ≤ (j : Int) := by omega
                  have j1 : (j : Int) < (qn : Int) := by omega
                  have hql := hDR'.out.len
                  have hj1 := Lib.hid (show j + 1 ≤ qn by omega)
                  have hd : (dB.drop A.length)[j]? = some (dB.drop A.length)[j] := List.getElem?_eq_getElem (by omega)
                  have hEf' := hEf.out
                  rw [List.drop_eq_getElem_cons (by omega : j < (dB.drop A.length).length), List.foldl_cons] at hEf'
                  have hdk := hDR'.out.ok _ (List.mem_of_getElem? hd)
                  generalize (dB.drop A.length)[j] = d at *
                  cases aR with
                  | none => have := hDR'.out.nil rfl; omega
                  | some ad =>
                  obtain ⟨b, off, rfl, _, hcc⟩ := hDR'.out.cells _ rfl
                  have hrd := hcc j d hd
                  rw [Nat.mul_comm 32 j] at hrd
                  have hrd' : Hid (wr.rangeAt b (off + j * 32) (bv d)) := by
                    have hds := hDR'.out.below hZ.out.bl
                    obtain ⟨b', off', e', _, hcc'⟩ := hds.cells _ rfl
                    cases e'
                    have := hcc' j d hd
                    rwa [Nat.mul_comm 32 j] at this
                  have hdid : Hid ((Tryd.prog.info? 35).map (·.size) = some (bv d).length) := by show _ = _; rw [bv_length, hdk.1]; exact size35
                  obtain ⟨W2, hP0⟩ := put_dig (x := d) (Blk.new wr 35 (bv (List.replicate 32 0))) (by simp) hdk.1
                  have hP := Lib.hid hP0
                  have hst := below_grown ((Below.refl _ wr).alloc (Nat.le_refl _) _) hP0.grown (by simp) (Nat.le_refl _)
                  have hZ2 := Lib.hid (hZ.out.next hst)
                  have hr24 : Hid (W2.rangeAt wr.heap.size 0 (bv d)) := hP0.blk.range
                  have hr22 : Hid (W2.rangeAt g22 0 (bv E)) := hZ2.out.bx.range
                  have hcn := Lib.hid (fun W hT => chain_any E d W hT hE.out.1 hdk.1 hE.out.2 hdk.2)
                  have hEf2 := Lib.hid hEf'
                  clear hP0 hst hrd hcc hd hEf' hEf hZ
                  obtain ⟨RE, hRE⟩ : ∃ R, Hid (bv E = R) := ⟨_, rfl⟩
                  obtain ⟨RD, hRD⟩ : ∃ R, Hid (bv d = R) := ⟨_, rfl⟩
                  rw [hRE.out] at hr22 hdiE hcn
                  rw [hRD.out] at hr24 hdid hcn hrd' hP
                  go_wp2_with (first
                    | (refine wpList_load_mid (by rfl) 35 (.tmp 187) (by rfl) b (off + j * 32) (by rfl) RD _ hrd'.out Tryd.underlying35 (by rfl) hdid.out ?_)
                    | (refine wpList_store_mid (by rfl) 35 (.tmp 24) (.tmp 188) (by rfl) wr.heap.size 0 RD.toArray (by rfl) (by rfl) hP.out.there hP.out.info (by simpa using hP.out.one) ?_
                       generalize hWq : World.setCells _ _ _ _ = Wa
                       obtain rfl : W2 = Wa := by rw [← hWq]; exact hP.out.eq
                       clear hWq)
                    | (refine wpList_load_mid (by rfl) 35 (.tmp 22) (by rfl) g22 0 (by rfl) RE _ hr22.out Tryd.underlying35 (by rfl) hdiE.out ?_)
                    | (refine wpList_load_mid (by rfl) 35 (.tmp 24) (by rfl) wr.heap.size 0 (by rfl) RD _ hr24.out Tryd.underlying35 (by rfl) hdid.out ?_))
                  refine (hcn.out _ (HT'.out.below hZ2.out.bel)).mono ?_
                  rintro e w18 ⟨rfl, hb⟩
                  have hZ3 := Lib.hid (hZ2.out.next hb)
                  have hch32 : (Sha.chain E d).length = 32 ∧ ∀ u ∈ Sha.chain E d, u < 256 := ⟨Sha.tagged_length _ _, Sha.tagged_lt _ _⟩
                  obtain ⟨W5, hP5⟩ := put_dig (x := Sha.chain E d) hZ3.out.bx hE.out.1 hch32.1
                  have hP6 := Lib.hid hP5
                  have hZ5 : Hid (ChzW w w13 g22 (Sha.chain E d) W5) := ⟨hP5.blk, below_grown hZ3.out.bel hP5.grown hZ3.out.bel.size hg0.out.1, below_grown hZ3.out.bl hP5.grown hZ3.out.bl.size hZ3.out.ge, hZ3.out.ge⟩
                  clear hP5
                  obtain ⟨RC, hRC⟩ : ∃ R, Hid (bv (Sha.chain E d) = R) := ⟨_, rfl⟩
                  rw [hRC.out] at hP6 ⊢
                  go_wp2_with (first
                    | (refine wpList_store_mid (by rfl) 35 (.tmp 22) (.tmp 191) (by rfl) g22 0 RC.toArray (by rfl) (by rfl) hP6.out.there hP6.out.info (by simpa using hP6.out.one) ?_
                       generalize hWq : World.setCells _ _ _ _ = Wa
                       obtain rfl : W5 = Wa := by rw [← hWq]; exact hP6.out.eq
                       clear hWq))
                  have hj2 := hj1.out
                  exact ⟨⟨j + 1, Sha.chain E d, hj2, by go_num, hZ5, hch32, hEf2⟩, by simp [intOf]; omega⟩
                · obtain rfl : j = qn := by omega
                  have hge2 : ¬ ((j : Nat) : Int) < (j : Int) := by omega
                  have hql := hDR'.out.len
                  have hEf' := hEf.out
                  rw [List.drop_eq_nil_of_le (by omega), List.foldl_nil] at hEf'
                  have hEf2 : Hid (E = chainD fo dB) := hEf'
                  clear hEf hEf'
                  have hEf := hEf2
                  have heq : ∀ W, (Op.equalIn 10000 35 (.agg (bv E).toArray) (.agg (bv E).toArray)).run Tryd.prog W = .ok true W := fun W => by
                    have := eq_dig (x := E) (y := E) hE.out hE.out W
                    rwa [decide_eq_true rfl] at this
                  go_wp2_with fail
                  refine wp_region_held_drew (S := fun wz => wz.rangeAt g22 0 (bv E) ∧ ChzW w w13 g22 E wz) (by kernel_rfl) (ChzW.mk' hZ.out.drew) (fun hHeld => ?_)
                  refine wpAnyH_take (i := 0) (oi := { dst := some 193, op := Op.load 35 (Operand.tmp 22), type := 35, pos := "law.go:149", after := #[], guard := none }) rfl (by kernel_rfl) (by kernel_rfl) (by kernel_rfl) (fun _ _ _ h => h) (yieldsIf_load_mid (by rfl) _ _ rfl g22 0 rfl (bv E) _ (fun _ h => h.1) Tryd.underlying35 rfl hdiE.out) hHeld ?_
                  try simp only [Act.put, List.setIfInBounds_toArray, List.set_cons_zero, List.set_cons_succ]
                  refine wpAnyH_take (i := 1) (oi := { dst := some 194, op := Op.move (Operand.tmp 2), type := 3, pos := "law.go:149", after := #[], guard := none }) (v := ?_) rfl (by kernel_rfl) (by kernel_rfl) (by kernel_rfl) (fun _ _ _ h => h) (Or.inl ⟨by rfl, ?_⟩) hHeld ?_
                  rotate_left
                  · intro wz hSw
                    (try dsimp only at hSw)
                    go_simp
                    all_goals (with_reducible rfl)
                  try simp only [Act.put, List.setIfInBounds_toArray, List.set_cons_zero, List.set_cons_succ]
                  refine wpAnyH_take (i := 2) (oi := { dst := some 195, op := Op.move (Operand.tmp 19), type := 45, pos := "law.go:149", after := #[], guard := none }) (v := ?_) rfl (by kernel_rfl) (by kernel_rfl) (by kernel_rfl) (fun _ _ _ h => h) (Or.inl ⟨by rfl, ?_⟩) hHeld ?_
                  rotate_left
                  · intro wz hSw
                    (try dsimp only at hSw)
                    go_simp
                    all_goals (with_reducible rfl)
                  try simp only [Act.put, List.setIfInBounds_toArray, List.set_cons_zero, List.set_cons_succ]
                  refine wpAnyH_ready (rs := [3]) (by kernel_rfl) (by simp) ?_
                  refine AllReadyH.cons (o := { dst := some 196, op := Op.call { callee := Callee.value (Operand.func 14), args := #[Operand.tmp 194, Operand.tmp 195], argTypes := #[3, 45] }, type := 35, pos := "law.go:149", after := #[{ on := 1, ground := Ground.data }, { on := 2, ground := Ground.data }], guard := none }) rfl (fun K hK => ?_) AllReadyH.nil
                  rw [if_pos (by rfl)]
                  show Oper.wp _ _ _ _ K _
                  go_simp
                  go_at_call 14
                  refine (storeChain_any fo hf aD B.length cD dB _ (HT'.out.below hHeld.2.bel) (hDS13.out.below hHeld.2.bl)).mono ?_
                  rintro e w20 ⟨rfl, hb⟩
                  rw [← hEf.out]
                  refine hK.out _ _ (ChzW.mk' (hHeld.2.next hb)) (fun hHeld => ?_)
                  clear hK K
                  try simp only [Act.put, List.setIfInBounds_toArray, List.set_cons_zero, List.set_cons_succ]
                  refine wpAnyH_take (i := 4) (oi := { dst := some 197, op := Op.binOp BinOp.eql 35 (Operand.tmp 193) (Operand.tmp 196) 35, type := 4, pos := "law.go:149", after := #[{ on := 0, ground := Ground.data }, { on := 3, ground := Ground.data }], guard := none }) (v := ?_) rfl (by kernel_rfl) (by kernel_rfl) (by kernel_rfl) (fun _ _ _ h => h) (Or.inl ⟨by rfl, ?_⟩) hHeld ?_
                  rotate_left
                  · intro wz hSw
                    (try dsimp only at hSw)
                    go_simp
                    all_goals (with_reducible rfl)
                  try simp only [Act.put, List.setIfInBounds_toArray, List.set_cons_zero, List.set_cons_succ]
                  refine wpAnyH_take (i := 5) (oi := { dst := some 6, op := Op.assign (Operand.tmp 197), type := 4, pos := "law.go:149", after := #[{ on := 4, ground := Ground.data }, { on := 3, ground := Ground.chain }, { on := 0, ground := Ground.phase }, { on := 1, ground := Ground.phase }, { on := 2, ground := Ground.phase }, { on := 3, ground := Ground.phase }, { on := 4, ground := Ground.phase }], guard := none }) (v := ?_) rfl (by kernel_rfl) (by kernel_rfl) (by kernel_rfl) (fun _ _ _ h => h) (Or.inl ⟨by rfl, ?_⟩) hHeld ?_
                  rotate_left
                  · intro wz hSw
                    (try dsimp only at hSw)
                    go_simp
                    all_goals (with_reducible rfl)
                  try simp only [Act.put, List.setIfInBounds_toArray, List.set_cons_zero, List.set_cons_succ]
                  refine wpAnyH_done (by kernel_rfl) ?_ _
                  go_wp2_with fail
                  exact hfin.out _ hHeld.2.bel
end Go.Proofs.YtgfmdjagamjpbaaDoor
namespace Go.Proofs.YtgfmdjagamjpbaaDoor.lawChains
open Go.ChangeShapes Go.WideShapes Go.ChangeAt Go.RowKit Go.Mem
open Go.Proofs.YtgfmdjagamjpbaaDoor

theorem one_le {H : Type} (d : DataW H) : 1 ≤ Rows.uptoBulk d := by
  cases d with
  | lit l => cases l <;> simp [Rows.uptoBulk]
  | _ => simp [Rows.uptoBulk]
theorem length_le {H : Type} : ∀ (l : List (DataW H)), l.length ≤ Rows.uptoBulkAll l
  | [] => by simp [Rows.uptoBulkAll]
  | d :: r => by
    have := length_le r
    have := one_le d
    simp only [Rows.uptoBulkAll, List.length_cons]
    omega
theorem slice_le {H : Type} (elems spare : List (DataW H)) : elems.length ≤ Rows.uptoBulk (.slice elems spare) := by
  have := length_le elems
  simp only [Rows.uptoBulk]
  omega
theorem bulk_steps {H : Type} {enc : TypeId × Value → H} {W : World} {a : Option Addr} {n c : Nat} {d : DataW H} {p : List MemPlace} (h : DataW.Trod enc Tryd.prog W 0 (fun _ => true) true 22 (.slice a n c) d p) : n ≤ Rows.uptoBulk d := by
  obtain ⟨fuel, hf⟩ := h
  have hf' : DataW.trod enc Tryd.prog W 0 (fun _ => true) true fuel 22 [.slice a n c] = some (d, p) := by simpa [Value.cells] using hf
  rcases Deep.open_slice Tryd.underlying22 hf' with ⟨hcs, _⟩ | ⟨ad, len, cap, m, k, D, Pl, hcs, hb, hl, hm, hmm, hx, _⟩
  · simp at hcs
    omega
  · simp at hcs
    obtain ⟨rfl, rfl, rfl⟩ := hcs
    cases hx
    refine Nat.le_trans ?_ (slice_le _ _)
    simp

set_option maxRecDepth 100000 in
theorem contract (H : Type) (enc : TypeId × Value → H) (W : World) (base : Nat) (args : Array Value) (ds gs : List (DataW H)) (before : List MemPlace)
    (hval : ∀ (j : Nat) t v, Tryd.f3.params[j]? = some t → args[j]? = some v → Value.okWide Tryd.prog W .any base t v)
    (hW : DataW.Whole enc Tryd.prog Tryd.f3.params.toList Rows.storeChainsSpec.vars false W args.toList ds gs before) (hL : laidMetH Tryd.prog laid2 W) (hk : Rows.uptoSmall H (ds ++ gs) = true) :
    Calls Tryd.prog 3 args W fun e W' => ∃ v, e = .returned v ∧ Rows.storeChainsSpec.post enc Tryd.prog Tryd.f3 false true false false W args v W' := by
  have hW' := hW
  obtain ⟨p, q, hA0, hV, rfl, hfz, hnd⟩ := hW
  have hA : DataW.TrodAll enc Tryd.prog W 0 (fun _ => true) true Tryd.f3.params.toList args.toList ds p := hA0
  rw [Tryd.params3] at hA hval
  obtain ⟨v0, vs0, d0, ds0, p0, q0, hargs, rfl, rfl, h0, r0⟩ := trodAll_cons hA
  obtain ⟨v1, vs1, d1, ds1, p1, q1, rfl, rfl, rfl, h1, r1⟩ := trodAll_cons r0
  obtain ⟨v2, vs2, d2, ds2, p2, q2, rfl, rfl, rfl, h2, r2⟩ := trodAll_cons r1
  obtain ⟨rfl, rfl, rfl⟩ := trodAll_nil r2
  obtain rfl : args = #[v0, v1, v2] := by cases args; simp_all
  obtain ⟨rfl, rfl⟩ := trodVars_none hV
  have lt0 : ∀ x ∈ p0, x.block < W.heap.size := by obtain ⟨m, hm⟩ := h0; exact DataW.trod_lt m _ _ _ hm
  have lt1 : ∀ x ∈ p1, x.block < W.heap.size := by obtain ⟨m, hm⟩ := h1; exact DataW.trod_lt m _ _ _ hm
  have lt2 : ∀ x ∈ p2, x.block < W.heap.size := by obtain ⟨m, hm⟩ := h2; exact DataW.trod_lt m _ _ _ hm
  have k0' := h0
  have k1' := h1
  have k2' := h2
  obtain ⟨a0, n0, c0, rfl⟩ := okWide_slice Tryd.underlying22 (hval 0 22 v0 rfl rfl)
  obtain ⟨l0, S0⟩ := open_steps h0
  obtain ⟨a1, n1, c1, rfl⟩ := okWide_slice Tryd.underlying22 (hval 1 22 v1 rfl rfl)
  obtain ⟨l1, S1⟩ := open_steps h1
  obtain ⟨x2, rfl⟩ := okWide_int Tryd.underlying3 (hval 2 3 v2 rfl rfl)
  obtain ⟨m2, hm2⟩ := h2
  obtain ⟨x2', e2, i2⟩ := open_int1 (cs := [.int .i64 x2]) (by simpa [Value.cells] using hm2)
  obtain rfl : x2 = x2' := by simpa using e2
  clear hm2 e2
  have hT := tabs_of_laid hL
  clear hA0
  have hb0 := bulk_steps k0'
  have hb1 := bulk_steps k1'
  have hsz : n0 + n1 ≤ 1000000000 := by
    have h := of_decide_eq_true hk
    simp only [Rows.uptoBulkAll, List.append_nil] at h
    omega
  refine (chains_walk a0 n0 c0 l0 a1 n1 c1 l1 x2 i2 W hT S0 S1 hsz).mono fun e W' ⟨he, bel⟩ => ?_
  subst he
  exact ⟨_, rfl, _, _, _, [], _, [], hW', trodAll_mk1 (shut_bool Tryd.underlying4 _),
    (trodAll_cons_mk (Below.trod laidOut (by kernel_rfl) (of_decide_eq_true (by kernel_rfl)) k0' bel lt0) (trodAll_cons_mk (Below.trod laidOut (by kernel_rfl) (of_decide_eq_true (by kernel_rfl)) k1' bel lt1) (trodAll_cons_mk (Below.trod laidOut (by kernel_rfl) (of_decide_eq_true (by kernel_rfl)) k2' bel lt2) trodAll_mk0))), rfl, bel.frame _, fun h => by cases h⟩


theorem reads (os : Os) {H : Type} (enc : TypeId × Value → H) : ∃ places, DataW.whole enc Tryd.prog ((World.doorLaid Tryd.prog 400 os).forCall (fun _ _ => 0) ⟨#[], #[.slice none 0 0, .slice none 0 0, .int .i64 0], []⟩).memory Tryd.f3.params.toList Rows.storeChainsSpec.vars false (#[.slice none 0 0, .slice none 0 0, .int .i64 0] : Array Value).toList 8 = some ([.nil, .nil, .lit (.int .i64 0)], [], places) :=
  ⟨[], by kernel_rfl⟩

set_option maxRecDepth 100000 in
theorem liftedUpto (os : Os) (started : os.Started) (H : Type) (enc : TypeId × Value → H) (F : Stop.Interp) :
    ReturnsInHanded {} Tryd.checked os 3 .any ((Rows.OpenSpec.upto Rows.storeChainsSpec).preRow enc Tryd.prog Tryd.f3 Rows.storeChainsUptoRow.domain false Rows.storeChainsUptoRow.laid) (((Rows.OpenSpec.upto Rows.storeChainsSpec).at F).post enc Tryd.prog Tryd.f3 false true false false) := by
  obtain ⟨places, hx⟩ := reads os enc
  refine returnsInHanded_of_row (C := Tryd.checked) (s := Rows.OpenSpec.upto Rows.storeChainsSpec) own started (by kernel_rfl) Tryd.func3
    (witness_row_atRef (enc := enc) (C := Tryd.checked) false (World.doorLaid Tryd.prog 400 os) #[.slice none 0 0, .slice none 0 0, .int .i64 0] rfl (by kernel_rfl) (by kernel_rfl) (by kernel_rfl)
      (OpenSpec.preRow_of_cond 8 hx (by kernel_rfl) (fun k hk => by cases hk; kernel_rfl) (by kernel_rfl) (door_met os _))) ?_
  intro W base args ds gs before hval hW h1 hcond h3 hL _ _
  exact contract H enc W base args ds gs before hval hW hL (hcond _ rfl)

theorem saidUpto : Rows.StoreChainsUptoSaid :=
  OpenClaim.holds_of_cond 3 Tryd.f3 rfl rfl rfl rfl rfl rfl rfl ⟨rfl, rfl, rfl, rfl, rfl⟩ rfl rfl rfl rfl rfl (by kernel_rfl) Tryd.func3 (by kernel_rfl)
    (of_decide_eq_true (by kernel_rfl)) (by unfold Func.isWrapper; first | (rw [if_pos (by decide +kernel)]; kernel_rfl) | (rw [if_neg (by decide +kernel)]; exact ⟨rfl, rfl⟩))
    (fun os started H enc _ F => by rw [OpenClaim.pre_eq_preRow]; exact liftedUpto os started H enc F)

theorem proved : Rows.StoreChainsUptoCardSaid :=
  Claim7.holds_tied_plain_at .later [] [.data, .data] true (true, "f488a35397967aefade51eef8664caa68c041adfc501cfb8a4ac36b015989e3d") false
    saidUpto (fun _ h => by cases h) (by kernel_rfl) (fun _ h => by cases h) storeChainsUpto_row_tie rfl ⟨rfl, rfl⟩ (by kernel_rfl) rfl
    (fun f fn hf hfn => by
      obtain rfl : f = 3 := Option.some.inj ((show Tryd.prog.funcNamed "chartroom/chartroomlaw30.StoreChains" = some 3 by kernel_rfl).symm.trans hf) |>.symm
      obtain rfl : fn = Tryd.f3 := (Option.some.inj (Tryd.func3.symm.trans hfn)).symm
      exact ⟨by kernel_rfl, fun j t ht => by
        rw [Tryd.params3] at ht
        have hm : t ∈ [22, 22, 3] := by simpa using Array.mem_of_getElem? ht
        have hall : ([22, 22, 3].all fun u => !Tryd.prog.wantsStandIn u) = true := by kernel_rfl
        exact (show Tryd.prog.wantsStandIn t = false by simpa using List.all_eq_true.1 hall t hm)⟩)
    (by kernel_rfl)
#print axioms proved
end Go.Proofs.YtgfmdjagamjpbaaDoor.lawChains

