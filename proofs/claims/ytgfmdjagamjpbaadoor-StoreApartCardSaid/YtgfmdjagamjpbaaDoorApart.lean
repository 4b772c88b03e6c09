/- StoreApart: for all steps and every further step the law returns true and its arguments read as before; the package variables digest.start and digest.numbers are as the program's text lays them (the tied card); no other condition. -/
import Derived.Test.YtgfmdjagamjpbaaDoorSnp
import Derived.Test.YtgfmdjagamjpbaaDoorLog
import Derived.Test.YtgfmdjagamjpbaaDoorOpa
import Derived.Test.YtgfmdjagamjpbaaDoorSne
import Derived.Deep.DeepCutAuto
import Derived.Test.YtgfmdjagamjpbaaDoorCards
import Derived.Test.YtgfmdjagamjpbaaDoorTie
import Derived.SevenTiedAt
namespace Go.Sto
structure Stp where
  folder : Int
  kind : Int
  no : Int
  data : List Nat
def stepS (s : St) (x : Stp) : St :=
  if x.kind = 0 then (if (delS s x.folder x.no).2 = 0 then (delS s x.folder x.no).1 else s)
  else (if (putS s x.folder x.kind x.data).2.2 = 0 then (putS s x.folder x.kind x.data).1 else s)
def playGo (s : St) : List Stp → St × Bool
  | [] => (s, true)
  | x :: r => if 100 < x.data.length then (s, false) else playGo (stepS s x) r
def newSt : St := ⟨2, 5, []⟩
def playS (l : List Stp) : St × Bool := if 10 < l.length then (zeroS, false) else playGo newSt l
theorem step_del0 {s y : St} {x : Stp} (hk : x.kind = 0) (h : delS s x.folder x.no = (y, 0)) : stepS s x = y := by simp [stepS, hk, h]
theorem step_del1 {s y : St} {x : Stp} {q : Int} (hk : x.kind = 0) (h : delS s x.folder x.no = (y, q)) (hq : q ≠ 0) : stepS s x = s := by simp [stepS, hk, h, hq]
theorem step_put0 {s y : St} {x : Stp} {no : Int} (hk : x.kind ≠ 0) (h : putS s x.folder x.kind x.data = (y, no, 0)) : stepS s x = y := by simp [stepS, hk, h]
theorem step_put1 {s y : St} {x : Stp} {no q : Int} (hk : x.kind ≠ 0) (h : putS s x.folder x.kind x.data = (y, no, q)) (hq : q ≠ 0) : stepS s x = s := by simp [stepS, hk, h, hq]
end Go.Sto
namespace Go.Proofs.YtgfmdjagamjpbaaDoor
open Go.RowKit Go.Mem
open Go.Sto (Ent Lg St Stp)

def stpC (x : Stp) (a : Option Addr) (n c : Nat) : List Value := [.int .i64 x.folder, .int .i64 x.kind, .int .i64 x.no, .slice a n c]
/-- a row that reads as a step. -/
def TV (w : World) (x : Stp) (r : List Value) : Prop := I64 x.folder ∧ I64 x.kind ∧ I64 x.no ∧ ∃ a n c, r = stpC x a n c ∧ BW w a n c x.data
/-- a slice of steps. -/
def SS (w : World) (a : Option Addr) (n c : Nat) (l : List Stp) : Prop := RS 4 TV (fun _ => True) w a n c l
theorem SS.below {w w' : World} {a : Option Addr} {n c : Nat} {l : List Stp} (h : SS w a n c l) (hb : Below w.heap.size w w') : SS w' a n c l :=
  RS.keep h (.below hb) fun _ _ ⟨h1, h2, h3, a, n, c, e, h4⟩ => ⟨h1, h2, h3, a, n, c, e, h4.below hb⟩
theorem stpC_one (x : Stp) (a : Option Addr) (n c : Nat) : ∀ u ∈ stpC x a n c, u.oneCell' = true := by
  intro u hu
  simp only [stpC, List.mem_cons, List.not_mem_nil, or_false] at hu
  rcases hu with rfl | rfl | rfl | rfl <;> rfl
theorem sizeSto : (Tryd.prog.info? 26).map (·.size) = some 3 := by kernel_rfl
theorem stC_ones (s : St) (a : Option Addr) (n c : Nat) : ∀ u ∈ stC s a n c, u.oneCell' = true := by
  intro u hu
  simp only [stC, List.mem_cons, List.not_mem_nil, or_false] at hu
  rcases hu with rfl | rfl | rfl <;> rfl
theorem sizeStp : (Tryd.prog.info? 58).map (·.size) = some 4 := by kernel_rfl
def PlayPost (s : St) (b : Bool) (w : World) (e : Ending) (w' : World) : Prop :=
  ∃ a c, e = .returned (.tuple #[.agg #[.int .i64 s.id, .int .i64 s.priv, .slice a s.logs.length c], .bool b]) ∧ SV (fun _ => True) w' a s.logs.length c s ∧ Below w.heap.size w w'
theorem play_ret {W : World} {tb : Nat} {x0 x1 x2 : Value} {b : Bool} (hB : Blk W tb 26 [x0, x1, x2]) {a : Act} (hp : a.tmps.getD 2 undef = .pointer (some ⟨tb, 0, none⟩)) (hq : a.tmps.getD 3 undef = .bool b) (hd : a.defers = []) {Post : Ending → World → Prop} (hP : Post (.returned (.tuple #[.agg #[x0, x1, x2], .bool b])) W) :
    bodyPost Tryd.prog Tryd.f8 Post .ret a W := by
  have c0 := hB.at_ (i := 0) rfl
  have c1 := hB.at_ (i := 1) rfl
  have c2 := hB.at_ (i := 2) rfl
  refine bodyPost_ret (v := .tuple #[.agg #[x0, x1, x2], .bool b]) ?_ hd hP
  rw [results_cell_tmp rfl, hp, hq]
  simp [go_sem, c0, c1, c2]

/-- what the loop keeps: the store's box, what it holds, and that nothing older has changed. -/
structure PlyW (w : World) (tb : Nat) (s : St) (a : Option Addr) (c : Nat) (wr : World) : Prop where
  box : Blk wr tb 26 (stC s a s.logs.length c)
  sv : SV (fun b => tb < b) wr a s.logs.length c s
  bel : Below w.heap.size w wr
theorem PlyW.next {w wr wq : World} {tb : Nat} {s : St} {a : Option Addr} {c : Nat} (h : PlyW w tb s a c wr) (hb : Below wr.heap.size wr wq) : PlyW w tb s a c wq :=
  ⟨h.box.below hb h.box.lt, h.sv.below hb, h.bel.trans (hb.mono h.bel.size)⟩
/-- the store s is written into the box anew. -/
theorem PlyW.put {w wr wq : World} {tb : Nat} {s s' : St} {a a' : Option Addr} {c c' : Nat} (h : PlyW w tb s a c wr) (hw : w.heap.size ≤ tb) (hP : PutR 26 wr wq tb 26 (stC s' a' s'.logs.length c')) (hS : SV (fun b => tb < b) wr a' s'.logs.length c' s') : PlyW w tb s' a' c' wq :=
  ⟨hP.blk, hS.keep (Keeps.grown hP.grown fun b hb e => by omega), below_grown h.bel hP.grown h.bel.size hw⟩
theorem PlyW.fin {w wr : World} {tb : Nat} {s : St} {a : Option Addr} {c : Nat} (h : PlyW w tb s a c wr) (b : Bool) : PlayPost s b w (.returned (.tuple #[.agg #[.int .i64 s.id, .int .i64 s.priv, .slice a s.logs.length c], .bool b])) wr :=
  ⟨a, c, rfl, h.sv.imp fun _ _ _ => trivial, h.bel⟩
/-- .. and its cells. -/
theorem box_put {W : World} {tb : Nat} {x : List Value} {s : St} {a : Option Addr} {n c : Nat} (h : Blk W tb 26 x) (hx : x.length = 3) : ∃ W9, PutR 26 W W9 tb 26 (stC s a n c) :=
  put_row h (by rw [hx]; rfl) sizeSto (stC_ones _ _ _ _)

theorem new25 (w : World) : Calls Tryd.prog 24 #[.int .i64 2, .int .i64 5] w (fun e w' => e = .returned (.tuple #[.agg #[.int .i64 2, .int .i64 5, .slice none 0 0], .int .i64 0]) ∧ Below w.heap.size w w') := by
  have h := New_any 2 5 w
  have e : Sto.newE 2 5 = 0 := by decide
  unfold NewPost at h
  rw [e, if_pos rfl] at h
  exact h
theorem sv_new {K : Nat → Prop} {w : World} : SV K w none Sto.newSt.logs.length 0 Sto.newSt := ⟨LS.nil0 _ _, ⟨by decide, by decide⟩, ⟨by decide, by decide⟩⟩

set_option maxRecDepth 20000 in
set_option maxHeartbeats 4000000 in
theorem play_any (a : Option Addr) (n c : Nat) (l : List Stp) (w : World) (HT : Tabs w) (H : SS w a n c l) :
    Calls Tryd.prog 8 #[.slice a n c] w (PlayPost (Sto.playS l).1 (Sto.playS l).2 w) := by
  have HT' := Lib.hid HT; have H' := Lib.hid H
  have hlen := H.len
  clear HT H
  obtain ⟨tb, htb⟩ : ∃ tb, Hid (w.heap.size = tb) := ⟨_, rfl⟩
  have hle : Hid (w.heap.size ≤ tb) := Nat.le_of_eq htb.out
  obtain ⟨W1, hW1⟩ : ∃ W1, W1 = w.alloc (.cells #[.int .i64 0, .int .i64 0, .slice none 0 0] 26) := ⟨_, rfl⟩
  have hP1 : Hid (PlyW w tb Sto.zeroS none 0 W1) := by
    rw [hW1, ← htb.out]
    exact ⟨Blk.new w _ _, SV.zero _ _, (Below.refl _ w).alloc (Nat.le_refl _) _⟩
  obtain ⟨X, hX⟩ : ∃ X, X = PlayPost (Sto.playS l).1 (Sto.playS l).2 w := ⟨_, rfl⟩
  rw [← hX]
  by_cases hn : 10 < n
  · have hXf : Hid (X = PlayPost Sto.zeroS false w) := by show _ = _; rw [hX]; unfold Sto.playS; rw [if_pos (by omega)]
    clear hX
    have hn' : (10 : Int) < (n : Int) := by omega
    go_enter Tryd.func8, Tryd.ntmps8
    go_upto_region 1 with fail
    rw [htb.out]
    generalize hg : World.alloc w _ = Wg
    obtain rfl : W1 = Wg := by rw [← hg, hW1]
    clear hg hW1
    obtain ⟨W2, hP⟩ := box_put (s := Sto.zeroS) (a := none) (n := Sto.zeroS.logs.length) (c := 0) hP1.out.box rfl
    have hP2 := Lib.hid hP
    have hP3 := Lib.hid (hP1.out.put hle.out hP hP1.out.sv)
    have c0 := hP1.out.box.at_ (i := 0) rfl
    have c1 := hP1.out.box.at_ (i := 1) rfl
    have c2 := hP1.out.box.at_ (i := 2) rfl
    clear hP hP1
    go_wp2_with (first
      | (refine wpList_store_mid (by rfl) 26 (.tmp 2) (.tmp 15) (by rfl) tb 0 (stC Sto.zeroS none Sto.zeroS.logs.length 0).toArray (by rfl) (by rfl) hP2.out.there hP2.out.info (by simpa using hP2.out.one) ?_
         generalize hWq : World.setCells _ _ _ _ = Wa
         obtain rfl : W2 = Wa := by rw [← hWq]; exact hP2.out.eq
         clear hWq))
    refine play_ret hP2.out.blk rfl rfl rfl ?_
    rw [hXf.out]
    exact hP3.out.fin false
  · have hXf : Hid (X = PlayPost (Sto.playGo Sto.newSt l).1 (Sto.playGo Sto.newSt l).2 w) := by show _ = _; rw [hX]; unfold Sto.playS; rw [if_neg (by omega)]
    clear hX
    have hn' : ¬ (10 : Int) < (n : Int) := by omega
    have n0 : (0 : Int) ≤ (n : Int) := by omega
    go_enter Tryd.func8, Tryd.ntmps8
    go_upto_region 1 with fail
    rw [htb.out]
    generalize hg : World.alloc w _ = Wg
    obtain rfl : W1 = Wg := by rw [← hg, hW1]
    clear hg hW1
    go_wp2_with fail
    refine (new25 _).mono ?_
    rintro e w2 ⟨rfl, hb2⟩
    have hP2 := Lib.hid (hP1.out.next hb2)
    obtain ⟨W3, hP⟩ := box_put (s := Sto.newSt) (a := none) (n := Sto.newSt.logs.length) (c := 0) hP2.out.box rfl
    have hPR := Lib.hid hP
    have hP3 := Lib.hid (hP2.out.put hle.out hP sv_new)
    clear hP hP1 hb2 hP2
    go_wp2_with (first
          | (refine wpList_store_mid (by rfl) 26 (.tmp 2) (.tmp 18) (by rfl) tb 0 (stC Sto.newSt none Sto.newSt.logs.length 0).toArray (by rfl) (by rfl) hPR.out.there hPR.out.info (by simpa using hPR.out.one) ?_
             generalize hWq : World.setCells _ _ _ _ = Wa
             obtain rfl : W3 = Wa := by rw [← hWq]; exact hPR.out.eq
             clear hWq))
    clear hPR
    go_loopw [25] (fun i wr => ∃ (k : Nat) (s : St) (sa : Option Addr) (sc : Nat), k ≤ n ∧ i = .int .i64 k ∧ Hid (PlyW w tb s sa sc wr) ∧ Hid (Sto.playGo Sto.newSt l = Sto.playGo s (l.drop k))) (fun i _ => n - (intOf i).toNat)
    case atStart => exact ⟨0, Sto.newSt, none, 0, Nat.zero_le _, rfl, hP3, rfl⟩
    case round =>
      obtain ⟨k, s, sa, sc, hk, rfl, hS, hf⟩ := hrel
      clear hP3
      by_cases hlt : k < n
      · have hkl : k < l.length := by omega
        have he : l[k]? = some l[k] := List.getElem?_eq_getElem hkl
        have hf' := hf.out
        rw [List.drop_eq_getElem_cons hkl, Sto.playGo] at hf'
        generalize l[k] = x at *
        obtain ⟨b, off, r, rfl, hbl, _, ⟨hi0, hi1, hi2, da, dn, dc, er, hbd⟩, hrl, hrg⟩ := RS.get (H'.out.below hS.out.bel) he
        subst er
        have x0 := hrg 0 _ rfl
        have x1 := hrg 1 _ rfl
        have x2 := hrg 2 _ rfl
        have x3 := hrg 3 _ rfl
        simp only [Nat.add_zero] at x0
        obtain ⟨W2, hP⟩ := put_row (ty := 58) (Blk.new wr 58 [.int .i64 0, .int .i64 0, .int .i64 0, .slice none 0 0]) (x := stpC x da dn dc) rfl sizeStp (stpC_one _ _ _ _)
        have hPR := Lib.hid hP
        have hst := below_grown ((Below.refl _ wr).alloc (Nat.le_refl _) _) hP.grown (by simp) (Nat.le_refl _)
        have hS2 := Lib.hid (hS.out.next hst)
        have hbd2 := Lib.hid (hbd.below hst)
        have y0 := hP.blk.at_ (i := 0) rfl
        have y1 := hP.blk.at_ (i := 1) rfl
        have y2 := hP.blk.at_ (i := 2) rfl
        have y3 := hP.blk.at_ (i := 3) rfl
        have k0 : (0 : Int) ≤ (k : Int) := by omega
        have k1 : (k : Int) < (n : Int) := by omega
        have hdl := hbd.len
        have hHT2 := Lib.hid (HT'.out.below hS2.out.bel)
        clear hP hst hrg hrl hbd hf he
        by_cases hd : 100 < dn
        · rw [if_pos (by omega)] at hf'
          have hd' : (100 : Int) < (dn : Int) := by omega
          obtain ⟨W3, hP⟩ := box_put (s := s) (a := sa) (n := s.logs.length) (c := sc) hS2.out.box rfl
          have hPR3 := Lib.hid hP
          have hS3 := Lib.hid (hS2.out.put hle.out hP hS2.out.sv)
          have hff := Lib.hid hf'
          clear hP hf' hS
          have c0 := hS2.out.box.at_ (i := 0) rfl
          have c1 := hS2.out.box.at_ (i := 1) rfl
          have c2 := hS2.out.box.at_ (i := 2) rfl
          clear hS2
          go_wp2_with (first
                | (refine wpList_store_mid (by rfl) 58 (.tmp 6) (.tmp 28) (by rfl) wr.heap.size 0 (stpC x da dn dc).toArray (by rfl) (by rfl) hPR.out.there hPR.out.info (by simpa using hPR.out.one) ?_
                   generalize hWq : World.setCells _ _ _ _ = Wa
                   obtain rfl : W2 = Wa := by rw [← hWq]; exact hPR.out.eq
                   clear hWq)
                | (refine wpList_store_mid (by rfl) 26 (.tmp 2) (.tmp 33) (by rfl) tb 0 (stC s sa s.logs.length sc).toArray (by rfl) (by rfl) hPR3.out.there hPR3.out.info (by simpa using hPR3.out.one) ?_
                   generalize hWq : World.setCells _ _ _ _ = Wa
                   obtain rfl : W3 = Wa := by rw [← hWq]; exact hPR3.out.eq
                   clear hWq))
          refine play_ret hPR3.out.blk rfl rfl rfl ?_
          rw [hXf.out, hff.out]
          exact hS3.out.fin false
        · rw [if_neg (by omega)] at hf'
          have hd' : ¬ (100 : Int) < (dn : Int) := by omega
          by_cases hkd : x.kind = 0
          · have hkd' : (x.kind == 0) = true := by simp [hkd]
            have hkh := Lib.hid hkd
            clear hkd
            have hcd := Lib.hid (Delete_any sa s.logs.length sc s x.folder x.no hi0 hi2 W2 hHT2.out (hS2.out.sv.imp fun _ _ _ => trivial))
            obtain ⟨V, hV⟩ : ∃ V, Hid (Sto.delS s x.folder x.no = V) := ⟨_, rfl⟩
            rw [hV.out] at hcd
            obtain ⟨y, q⟩ := V
            have hde := hV
            have hff := Lib.hid hf'
            clear hf' hS hV
            have c0 := hS2.out.box.at_ (i := 0) rfl
            have c1 := hS2.out.box.at_ (i := 1) rfl
            have c2 := hS2.out.box.at_ (i := 2) rfl
            go_wp2_with (first
              | (refine wpList_store_mid (by rfl) 58 (.tmp 6) (.tmp 28) (by rfl) wr.heap.size 0 (stpC x da dn dc).toArray (by rfl) (by rfl) hPR.out.there hPR.out.info (by simpa using hPR.out.one) ?_
                 generalize hWq : World.setCells _ _ _ _ = Wa
                 obtain rfl : W2 = Wa := by rw [← hWq]; exact hPR.out.eq
                 clear hWq))
            refine hcd.out.mono ?_
            rintro e w4 ⟨a4, c4, rfl, hS4, hb4⟩
            have hS4' := Lib.hid (hS2.out.next hb4)
            have htl : Hid (tb < w4.heap.size) := hS4'.out.box.lt
            have htl2 : Hid (tb < W2.heap.size) := hS2.out.box.lt
            have hPy := put_row (ty := 26) (Blk.new w4 26 [.int .i64 0, .int .i64 0, .slice none 0 0]) (x := stC y a4 y.logs.length c4) rfl sizeSto (stC_ones _ _ _ _)
            obtain ⟨W5, hP⟩ := hPy
            have hPR5 := Lib.hid hP
            have hst := below_grown ((Below.refl _ w4).alloc (Nat.le_refl _) _) hP.grown (by simp) (Nat.le_refl _)
            have hS5 := Lib.hid (hS4'.out.next hst)
            have hSy : Hid (SV (fun b => tb < b) W5 a4 y.logs.length c4 y) := (hS4.imp fun b _ h => Nat.lt_of_lt_of_le htl2.out h).below hst
            have z0 := hP.blk.at_ (i := 0) rfl
            have z1 := hP.blk.at_ (i := 1) rfl
            have z2 := hP.blk.at_ (i := 2) rfl
            clear hP hst hS4 hb4 hS2 c0 c1 c2
            by_cases hq0 : q = 0
            · subst hq0
              obtain ⟨W6, hP⟩ := box_put (s := y) (a := a4) (n := y.logs.length) (c := c4) hS5.out.box rfl
              have hPR6 := Lib.hid hP
              have hS6 := Lib.hid (hS5.out.put hle.out hP hSy.out)
              have hst0 := Lib.hid (Sto.step_del0 hkh.out hde.out)
              clear hP
              have c0 := hS5.out.box.at_ (i := 0) rfl
              have c1 := hS5.out.box.at_ (i := 1) rfl
              have c2 := hS5.out.box.at_ (i := 2) rfl
              go_wp2_with (first
                | (refine wpList_store_mid (by rfl) 26 (.tmp 7) (.tmp 44) (by rfl) w4.heap.size 0 (stC y a4 y.logs.length c4).toArray (by rfl) (by rfl) hPR5.out.there hPR5.out.info (by simpa using hPR5.out.one) ?_
                   generalize hWq : World.setCells _ _ _ _ = Wa
                   obtain rfl : W5 = Wa := by rw [← hWq]; exact hPR5.out.eq
                   clear hWq)
                | (refine wpList_store_mid (by rfl) 26 (.tmp 2) (.tmp 48) (by rfl) tb 0 (stC y a4 y.logs.length c4).toArray (by rfl) (by rfl) hPR6.out.there hPR6.out.info (by simpa using hPR6.out.one) ?_
                   generalize hWq : World.setCells _ _ _ _ = Wa
                   obtain rfl : W6 = Wa := by rw [← hWq]; exact hPR6.out.eq
                   clear hWq))
              exact ⟨⟨k + 1, y, a4, c4, by omega, by go_num, hS6, by show _ = _; rw [hff.out, hst0.out]⟩, by simp [intOf]; omega⟩
            · have hq : Hid (q ≠ 0) := hq0
              have hst1 := Lib.hid (Sto.step_del1 hkh.out hde.out hq.out)
              go_wp2_with (first
                | (refine wpList_store_mid (by rfl) 26 (.tmp 7) (.tmp 44) (by rfl) w4.heap.size 0 (stC y a4 y.logs.length c4).toArray (by rfl) (by rfl) hPR5.out.there hPR5.out.info (by simpa using hPR5.out.one) ?_
                   generalize hWq : World.setCells _ _ _ _ = Wa
                   obtain rfl : W5 = Wa := by rw [← hWq]; exact hPR5.out.eq
                   clear hWq))
              exact ⟨⟨k + 1, s, sa, sc, by omega, by go_num, hS5, by show _ = _; rw [hff.out, hst1.out]⟩, by simp [intOf]; omega⟩
          · have hkd' : (x.kind == 0) = false := by simp [hkd]
            have hkh := Lib.hid hkd
            clear hkd
            have hcd := Lib.hid (Put_any sa s.logs.length sc s x.folder x.kind hi0 hi1 da dn dc x.data W2 hHT2.out (hS2.out.sv.imp fun _ _ _ => trivial) hbd2.out (by omega))
            obtain ⟨V, hV⟩ : ∃ V, Hid (Sto.putS s x.folder x.kind x.data = V) := ⟨_, rfl⟩
            rw [hV.out] at hcd
            obtain ⟨y, no, q⟩ := V
            have hde := hV
            have hff := Lib.hid hf'
            clear hf' hS hV
            have c0 := hS2.out.box.at_ (i := 0) rfl
            have c1 := hS2.out.box.at_ (i := 1) rfl
            have c2 := hS2.out.box.at_ (i := 2) rfl
            go_wp2_with (first
              | (refine wpList_store_mid (by rfl) 58 (.tmp 6) (.tmp 28) (by rfl) wr.heap.size 0 (stpC x da dn dc).toArray (by rfl) (by rfl) hPR.out.there hPR.out.info (by simpa using hPR.out.one) ?_
                 generalize hWq : World.setCells _ _ _ _ = Wa
                 obtain rfl : W2 = Wa := by rw [← hWq]; exact hPR.out.eq
                 clear hWq))
            refine hcd.out.mono ?_
            rintro e w4 ⟨a4, c4, rfl, hS4, hb4⟩
            have hS4' := Lib.hid (hS2.out.next hb4)
            have htl : Hid (tb < w4.heap.size) := hS4'.out.box.lt
            have htl2 : Hid (tb < W2.heap.size) := hS2.out.box.lt
            have hPy := put_row (ty := 26) (Blk.new w4 26 [.int .i64 0, .int .i64 0, .slice none 0 0]) (x := stC y a4 y.logs.length c4) rfl sizeSto (stC_ones _ _ _ _)
            obtain ⟨W5, hP⟩ := hPy
            have hPR5 := Lib.hid hP
            have hst := below_grown ((Below.refl _ w4).alloc (Nat.le_refl _) _) hP.grown (by simp) (Nat.le_refl _)
            have hS5 := Lib.hid (hS4'.out.next hst)
            have hSy : Hid (SV (fun b => tb < b) W5 a4 y.logs.length c4 y) := (hS4.imp fun b _ h => Nat.lt_of_lt_of_le htl2.out h).below hst
            have z0 := hP.blk.at_ (i := 0) rfl
            have z1 := hP.blk.at_ (i := 1) rfl
            have z2 := hP.blk.at_ (i := 2) rfl
            clear hP hst hS4 hb4 hS2 c0 c1 c2
            by_cases hq0 : q = 0
            · subst hq0
              obtain ⟨W6, hP⟩ := box_put (s := y) (a := a4) (n := y.logs.length) (c := c4) hS5.out.box rfl
              have hPR6 := Lib.hid hP
              have hS6 := Lib.hid (hS5.out.put hle.out hP hSy.out)
              have hst0 := Lib.hid (Sto.step_put0 hkh.out hde.out)
              clear hP
              have c0 := hS5.out.box.at_ (i := 0) rfl
              have c1 := hS5.out.box.at_ (i := 1) rfl
              have c2 := hS5.out.box.at_ (i := 2) rfl
              go_wp2_with (first
                | (refine wpList_store_mid (by rfl) 26 (.tmp 9) (.tmp 58) (by rfl) w4.heap.size 0 (stC y a4 y.logs.length c4).toArray (by rfl) (by rfl) hPR5.out.there hPR5.out.info (by simpa using hPR5.out.one) ?_
                   generalize hWq : World.setCells _ _ _ _ = Wa
                   obtain rfl : W5 = Wa := by rw [← hWq]; exact hPR5.out.eq
                   clear hWq)
                | (refine wpList_store_mid (by rfl) 26 (.tmp 2) (.tmp 63) (by rfl) tb 0 (stC y a4 y.logs.length c4).toArray (by rfl) (by rfl) hPR6.out.there hPR6.out.info (by simpa using hPR6.out.one) ?_
                   generalize hWq : World.setCells _ _ _ _ = Wa
                   obtain rfl : W6 = Wa := by rw [← hWq]; exact hPR6.out.eq
                   clear hWq))
              exact ⟨⟨k + 1, y, a4, c4, by omega, by go_num, hS6, by show _ = _; rw [hff.out, hst0.out]⟩, by simp [intOf]; omega⟩
            · have hq : Hid (q ≠ 0) := hq0
              have hst1 := Lib.hid (Sto.step_put1 hkh.out hde.out hq.out)
              go_wp2_with (first
                | (refine wpList_store_mid (by rfl) 26 (.tmp 9) (.tmp 58) (by rfl) w4.heap.size 0 (stC y a4 y.logs.length c4).toArray (by rfl) (by rfl) hPR5.out.there hPR5.out.info (by simpa using hPR5.out.one) ?_
                   generalize hWq : World.setCells _ _ _ _ = Wa
                   obtain rfl : W5 = Wa := by rw [← hWq]; exact hPR5.out.eq
                   clear hWq))
              exact ⟨⟨k + 1, s, sa, sc, by omega, by go_num, hS5, by show _ = _; rw [hff.out, hst1.out]⟩, by simp [intOf]; omega⟩
      · have hge : ¬ (k : Int) < (n : Int) := by omega
        have hff : Hid (Sto.playGo Sto.newSt l = (s, true)) := by show _ = _; rw [hf.out, List.drop_eq_nil_of_le (by omega)]; rfl
        obtain ⟨W3, hP⟩ := box_put (s := s) (a := sa) (n := s.logs.length) (c := sc) hS.out.box rfl
        have hPR3 := Lib.hid hP
        have hS3 := Lib.hid (hS.out.put hle.out hP hS.out.sv)
        clear hP hf
        have c0 := hS.out.box.at_ (i := 0) rfl
        have c1 := hS.out.box.at_ (i := 1) rfl
        have c2 := hS.out.box.at_ (i := 2) rfl
        go_wp2_with (first
          | (refine wpList_store_mid (by rfl) 26 (.tmp 2) (.tmp 65) (by rfl) tb 0 (stC s sa s.logs.length sc).toArray (by rfl) (by rfl) hPR3.out.there hPR3.out.info (by simpa using hPR3.out.one) ?_
             generalize hWq : World.setCells _ _ _ _ = Wa
             obtain rfl : W3 = Wa := by rw [← hWq]; exact hPR3.out.eq
             clear hWq))
        refine play_ret hPR3.out.blk rfl rfl rfl ?_
        rw [hXf.out, hff.out]
        exact hS3.out.fin true
end Go.Proofs.YtgfmdjagamjpbaaDoor
namespace Go.Sto
theorem put_valid {s x : St} {f k no : Int} {d : List Nat} (hv : chkS s = 0) (h : putS s f k d = (x, no, 0)) : chkS x = 0 := by
  unfold putS at h
  split at h
  · rename_i ho
    split at h
    · rename_i hk
      split at h
      · cases h; exact hv
      · rename_i hi
        split at h
        · cases h
        · rename_i hl
          cases h
          exact replS_ok ho (putE_fine (ents_fine hv f) hk hi hl)
    · cases h
  · rename_i ho
    simp only [Prod.mk.injEq] at h
    exact absurd h.2.2 ho
theorem del_valid {s x : St} {f no : Int} (hv : chkS s = 0) (h : delS s f no = (x, 0)) : chkS x = 0 := by
  unfold delS at h
  split at h
  · rename_i ho
    split at h
    · rename_i hr
      split at h
      · rename_i e he
        split at h
        · rename_i hk
          cases h
          refine replS_ok ho ?_
          rcases ents_fine hv f with h0 | h0
          · rw [h0] at he; simp at he
          · exact delL_fine h0 he hk
        · cases h
      · cases h
    · cases h
  · rename_i ho
    simp only [Prod.mk.injEq] at h
    exact absurd h.2 ho
theorem step_valid {s : St} (hv : chkS s = 0) (x : Stp) : chkS (stepS s x) = 0 := by
  unfold stepS
  split
  · split
    · rename_i h; exact del_valid (no := x.no) (f := x.folder) hv (by rw [← h])
    · exact hv
  · split
    · rename_i h; exact put_valid (k := x.kind) (d := x.data) (f := x.folder) (no := (putS s x.folder x.kind x.data).2.1) hv (by rw [← h])
    · exact hv
theorem playGo_valid : ∀ (l : List Stp) {s : St}, chkS s = 0 → chkS (playGo s l).1 = 0
  | [], _, h => h
  | x :: r, s, h => by
    unfold playGo
    split
    · exact h
    · exact playGo_valid r (step_valid h x)
theorem play_valid {l : List Stp} {s : St} (h : playS l = (s, true)) : chkS s = 0 := by
  unfold playS at h
  split at h
  · cases h
  · have := playGo_valid l (s := newSt) (by decide)
    rw [h] at this
    exact this

theorem idx_snoc {l : List Ent} {e : Ent} (h : ¬ idxE e.dig l < l.length) : idxE e.dig (l ++ [e]) = l.length := by
  refine idxE_at (e := e) (by simp) rfl fun j x hj hx hd => ?_
  rw [List.getElem?_append_left hj] at hx
  exact idxE_not h (List.mem_map.2 ⟨x, List.mem_of_getElem? hx, hd⟩)
theorem drop_at {l : List Ent} {i : Nat} {e : Ent} (h : l[i]? = some e) : l.drop i = e :: l.drop (i + 1) := by
  have hi := (List.getElem?_eq_some_iff.1 h).1
  rw [List.drop_eq_getElem_cons hi]
  rw [show l[i] = e from Option.some.inj ((List.getElem?_eq_getElem hi).symm.trans h)]

theorem once_plain {s x : St} {f k no : Int} {d : List Nat} (hv : chkS s = 0) (h : putS s f k d = (x, no, 0)) :
    putS x f k d = (x, no, 0) ∧ 1 ≤ no ∧ no ≤ 100000 ∧ ∃ z r, fetchS x f no = (z :: r, 0) ∧ z.dig = entD k d ∧ (z.gone = true ∨ z.dig = entD z.kind z.data) := by
  have hx := put_valid hv h
  have h' := h
  unfold putS at h
  split at h
  · rename_i ho
    split at h
    · rename_i hk
      split at h
      · rename_i hi
        simp only [Prod.mk.injEq] at h
        obtain ⟨rfl, h2, _⟩ := h
        have hlen : (ents s f).length ≤ 65536 := by
          rcases ents_fine hv f with h0 | h0
          · rw [h0]; simp
          · exact ((fineB_iff _).1 h0).2.2.2
        refine ⟨h', by omega, by omega, ?_⟩
        obtain ⟨e, he, hd⟩ := idxE_lt hi
        refine ⟨e, (ents s f).drop (idxE (entD k d) (ents s f) + 1), ?_, hd, ?_⟩
        · unfold fetchS
          rw [if_pos ho, if_pos (by omega), show (no - 1).toNat = idxE (entD k d) (ents s f) by omega, drop_at he]
        · rcases ents_fine hv f with h0 | h0
          · rw [h0] at he; simp at he
          · exact entB_of (((fineB_iff _).1 h0).1 e (List.mem_of_getElem? he))
      · rename_i hi
        split at h
        · cases h
        · rename_i hl
          simp only [Prod.mk.injEq] at h
          obtain ⟨rfl, h2, _⟩ := h
          have ho2 : openE (replS s f (putE (ents s f) k d)) f = 0 := by
            rw [openE_iff]
            exact ⟨hx, ((openE_iff _ _).1 ho).2⟩
          have hen : ents (replS s f (putE (ents s f) k d)) f = putE (ents s f) k d := ents_repl_same _ _ _
          have hix : idxE (entD k d) (putE (ents s f) k d) = (ents s f).length := idx_snoc (e := ⟨k, entD k d, d, false⟩) hi
          have hln : (putE (ents s f) k d).length = (ents s f).length + 1 := by simp [putE]
          have hlen : (ents s f).length ≤ 65536 := by
            rcases ents_fine hv f with h0 | h0
            · rw [h0]; simp
            · exact ((fineB_iff _).1 h0).2.2.2
          refine ⟨?_, by omega, by omega, ⟨k, entD k d, d, false⟩, [], ?_, rfl, .inr rfl⟩
          · unfold putS
            rw [if_pos ho2, if_pos hk, hen, hix, if_pos (by omega), h2]
          · unfold fetchS
            rw [if_pos ho2, hen, hln, if_pos (by omega), show (no - 1).toNat = (ents s f).length by omega]
            simp [putE]
    · cases h
  · rename_i ho
    simp only [Prod.mk.injEq] at h
    exact absurd h.2.2 ho

theorem once_err {s x : St} {f k no q : Int} {d : List Nat} (hv : chkS s = 0) (h : putS s f k d = (x, no, q)) (hq : q ≠ 0) :
    no = 0 ∧ ((q = 1 ∧ (f < 0 ∨ 16 ≤ f ∨ k < 1 ∨ 7 < k)) ∨ (q = 2 ∧ 0 ≤ f ∧ f < 16 ∧ 1 ≤ k ∧ k ≤ 7)) := by
  unfold putS at h
  rw [openE_valid hv] at h
  cases hf : folderB f with
  | false =>
    rw [hf] at h
    simp at h
    have := of_decide_eq_false hf
    obtain ⟨_, h1, h2⟩ := h
    exact ⟨h1.symm, .inl ⟨h2.symm, by omega⟩⟩
  | true =>
    rw [hf] at h
    have hf' := of_decide_eq_true hf
    simp only [if_true] at h
    cases hk : kindB k with
    | false =>
      rw [hk] at h
      simp at h
      have := of_decide_eq_false hk
      obtain ⟨_, h1, h2⟩ := h
      exact ⟨h1.symm, .inl ⟨h2.symm, by omega⟩⟩
    | true =>
      rw [hk] at h
      have hk' := of_decide_eq_true hk
      simp only [if_true] at h
      split at h
      · simp only [Prod.mk.injEq] at h; omega
      · split at h
        · simp only [Prod.mk.injEq] at h
          exact ⟨by omega, .inr ⟨by omega, by omega⟩⟩
        · simp only [Prod.mk.injEq] at h; omega
end Go.Sto
namespace Go.Sto
theorem ents_len {s : St} (hv : chkS s = 0) (g : Int) : (ents s g).length ≤ 65536 := by
  rcases ents_fine hv g with h0 | h0
  · rw [h0]; simp
  · exact ((fineB_iff _).1 h0).2.2.2
theorem fetch_all {s : St} (hv : chkS s = 0) {g : Int} (hg : folderB g = true) : fetchS s g 1 = (ents s g, 0) := by
  unfold fetchS
  rw [if_pos (by rw [openE_iff]; exact ⟨hv, hg⟩), if_pos (by omega)]
  simp
theorem put_apart {s a : St} {f k no : Int} {d : List Nat} (_hv : chkS s = 0) (h : putS s f k d = (a, no, 0)) (g : Int) :
    ∃ t, ents a g = ents s g ++ t ∧ (t = [] ∨ (t.length = 1 ∧ g = f ∧ no = (ents s g).length + 1)) := by
  unfold putS at h
  split at h
  · split at h
    · split at h
      · simp only [Prod.mk.injEq] at h
        obtain ⟨rfl, _, _⟩ := h
        exact ⟨[], by simp, .inl rfl⟩
      · split at h
        · cases h
        · simp only [Prod.mk.injEq] at h
          obtain ⟨rfl, h2, _⟩ := h
          by_cases hgf : g = f
          · subst hgf
            exact ⟨_, by rw [ents_repl_same]; rfl, .inr ⟨rfl, rfl, h2.symm⟩⟩
          · exact ⟨[], by rw [ents_repl_other _ _ hgf]; simp, .inl rfl⟩
    · cases h
  · rename_i ho
    simp only [Prod.mk.injEq] at h
    exact absurd h.2.2 ho
theorem del_apart {s b : St} {f no : Int} (h : delS s f no = (b, 0)) (g : Int) :
    1 ≤ no ∧ (g ≠ f → ents b g = ents s g) ∧ (g = f → ents b g = delL (ents s g) (no - 1).toNat ∧ ∃ e, (ents s g)[(no - 1).toNat]? = some e ∧ e.kind = 4) := by
  unfold delS at h
  split at h
  · split at h
    · rename_i hr
      split at h
      · rename_i e he
        split at h
        · rename_i hk
          simp only [Prod.mk.injEq] at h
          obtain ⟨rfl, _⟩ := h
          refine ⟨hr.1, fun hg => ents_repl_other _ _ hg, fun hg => ?_⟩
          subst hg
          exact ⟨ents_repl_same _ _ _, e, he, hk⟩
        · cases h
      · cases h
    · cases h
  · rename_i ho
    simp only [Prod.mk.injEq] at h
    exact absurd h.2 ho
theorem del_at {s b : St} {f no : Int} (h : delS s f no = (b, 0)) (g : Int) :
    (ents b g).length = (ents s g).length ∧ ∀ (j : Nat) (e : Ent), (ents s g)[j]? = some e → (¬ (g = f ∧ (j : Int) + 1 = no) → (ents b g)[j]? = some e) ∧ (g = f ∧ (j : Int) + 1 = no → (ents b g)[j]? = some (delE e) ∧ e.kind = 4) := by
  obtain ⟨h1, h2, h3⟩ := del_apart h g
  by_cases hg : g = f
  · obtain ⟨h4, e4, h5, h6⟩ := h3 hg
    rw [h4, delL_length]
    refine ⟨rfl, fun j e he => ⟨fun hn => ?_, fun hy => ?_⟩⟩
    · rw [delL_get, he, if_neg (by intro e; exact hn ⟨hg, by omega⟩)]
      rfl
    · have hj : (no - 1).toNat = j := by omega
      rw [delL_get, he, if_pos hj]
      rw [hj, he] at h5
      cases h5
      exact ⟨rfl, h6⟩
  · rw [h2 hg]
    exact ⟨rfl, fun j e he => ⟨fun _ => he, fun hy => absurd hy.1 hg⟩⟩
end Go.Sto
namespace Go.Mem
theorem RS.take {α : Type} {s : Nat} {R : World → α → List Value → Prop} {K : Nat → Prop} {w : World} {a : Option Addr} {n c : Nat} {l : List α} (h : RS s R K w a n c l) {k : Nat} (hk : k ≤ n) : RS s R K w a k c (l.take k) := by
  obtain ⟨rows, hr, ho⟩ := h.rows
  refine ⟨by rw [List.length_take, h.len]; omega, fun hn => h.sep (by omega), rows.take k, ⟨?_, by have := h.le; omega, h.max, fun e => by have := h.nil' e; omega, fun hn => ?_⟩, ho.take k⟩
  · rw [flat_len (ho.take k).size, List.length_take, ho.len, h.len, Nat.min_eq_left hk]
  · obtain ⟨b, off, e, hb, hc⟩ := hr.cells (by omega)
    refine ⟨b, off, e, hb, fun j u hj => hc j u ?_⟩
    have e2 : rows.flatten = (rows.take k).flatten ++ (rows.drop k).flatten := by rw [← List.flatten_append, List.take_append_drop]
    rw [e2, List.getElem?_append_left (List.getElem?_eq_some_iff.1 hj).1]
    exact hj
end Go.Mem
namespace Go.Proofs.YtgfmdjagamjpbaaDoor
open Go.RowKit Go.Mem
open Go.Sto (Ent)
theorem elemE : Tryd.prog.underlying 31 = some (.slice (Tryd.prog.elem 31)) := by kernel_rfl
theorem sizeOfE (W : World) : (sizeOf (Tryd.prog.elem 31)).run Tryd.prog W = .ok 35 W := by kernel_rfl
theorem ES.take {K : Nat → Prop} {w : World} {a : Option Addr} {n c k : Nat} {l : List Ent} (h : ES K w a n c l) (hk : k ≤ n) : ES K w a k c (l.take k) := ⟨h.rs.take hk, by have := h.bd; omega⟩
/-- s[:k]. -/
theorem slice_h {K : Nat → Prop} {w : World} {a : Option Addr} {n c k : Nat} {l : List Ent} (h : ES K w a n c l) (hk : k ≤ n) (W : World) :
    (Instr.sliceAt 31 (.slice a n c) none (some (.int .i64 (k : Int))) none).run Tryd.prog W = .ok (.slice a k c) W := by
  have hle := h.rs.le
  rw [run_sliceAt_slice _ _ _ _ _ _ elemE, run_slice_h _ _ a n c elemE .i64 (k : Int) (by omega) (by omega), sizeOfE, Result.andThen_ok]
  unfold sliced
  simp only [Int.toNat_natCast, Nat.sub_zero, Nat.zero_mul]
  cases a with
  | none => simp
  | some ad =>
    have : ad.add 0 = ad := by unfold Addr.add; cases ad; simp
    simp [this]
/-- s[i:i+1]. -/
theorem slice_mid {K : Nat → Prop} {w : World} {a : Option Addr} {n c i : Nat} {l : List Ent} {e : Ent} (h : ES K w a n c l) (hi : l[i]? = some e) :
    ∃ a', (∀ W, (Instr.sliceAt 31 (.slice a n c) (some (.int .i64 (i : Int))) (some (.int .i64 ((i : Int) + 1))) none).run Tryd.prog W = .ok (.slice a' 1 (c - i)) W) ∧ ES K w a' 1 (c - i) [e] := by
  have hle := h.rs.le
  have hin : i < n := by have := (List.getElem?_eq_some_iff.1 hi).1; rw [h.rs.len] at this; exact this
  obtain ⟨b, off, _, rfl, _⟩ := h.rs.get hi
  refine ⟨some ⟨b, off + i * 35, none⟩, fun W => ?_, ?_⟩
  · rw [run_sliceAt_slice _ _ _ _ _ _ elemE, run_slice_lh _ _ _ n c elemE .i64 .i64 (i : Int) ((i : Int) + 1) (by omega) (by omega) (by omega), sizeOfE, Result.andThen_ok]
    unfold sliced
    rw [show ((i : Int) + 1).toNat = i + 1 by omega, Int.toNat_natCast, if_neg (by omega), Nat.add_sub_cancel_left]
    simp [Addr.add]
  · have hc := (ES.mk (h.rs.cut (k := i) (by omega)) (by have := h.bd; omega)).take (k := 1) (by omega)
    rw [if_neg (by omega)] at hc
    rw [List.drop_eq_getElem_cons (by rw [h.rs.len]; exact hin)] at hc
    simp only [List.take_succ_cons, List.take_zero] at hc
    rwa [show l[i]'(by rw [h.rs.len]; exact hin) = e from Option.some.inj ((List.getElem?_eq_getElem _).symm.trans hi)] at hc
end Go.Proofs.YtgfmdjagamjpbaaDoor
namespace Go.Proofs.YtgfmdjagamjpbaaDoor
open Go.ChangeShapes Go.WideShapes Go.ChangeAt Go.RowKit Go.Joins Go.Mem
open Go.Sto (Stp)

theorem cellsStp : Tryd.prog.cellsOf 58 = 4 := by kernel_rfl
theorem cellsSl : Tryd.prog.cellsOf 46 = 1 := by kernel_rfl
section
variable {H : Type} {enc : TypeId × Value → H} {W : World}
theorem open_u8 {fuel : Nat} {cs : List Value} {x : DataW H × List MemPlace} (h : DataW.trod enc Tryd.prog W 0 (fun _ => true) true fuel 5 cs = some x) : ∃ y : Nat, cs = [.int .u8 (y : Int)] ∧ y < 256 := by
  obtain ⟨a, e0, _, w0⟩ := DataW.trod_int Tryd.underlying5 h
  have hb : 0 ≤ a ∧ a < 256 := by
    have h2 : IntKind.u8.min ≤ a ∧ a ≤ IntKind.u8.max := by simpa [Lit.wf] using w0
    have e1 : IntKind.u8.min = 0 := rfl
    have e2 : IntKind.u8.max = 255 := rfl
    omega
  exact ⟨a.toNat, by rw [e0, Int.toNat_of_nonneg hb.1], by omega⟩
theorem open_bytes' {fuel : Nat} {cs : List Value} {x : DataW H × List MemPlace} (h : DataW.trod enc Tryd.prog W 0 (fun _ => true) true fuel 46 cs = some x) : ∃ a n c l, cs = [.slice a n c] ∧ BW W a n c l := by
  rcases Deep.open_slice Tryd.underlying46 h with ⟨rfl, _⟩ | ⟨ad, len, cap, m, k, D, Pl, rfl, hb, hl, hm, hmm, _, hx⟩
  · exact ⟨none, 0, 0, [], rfl, .inl ⟨rfl, Nat.le_refl _, by decide, fun _ => ⟨rfl, rfl⟩, (fun ad e => by cases e), (fun x hx => by cases hx)⟩⟩
  · simp at hmm
    subst hmm
    rw [cellsU8] at hx
    by_cases h0 : m = 0
    · subst h0
      obtain rfl : len = 0 := by omega
      exact ⟨some ad, 0, 0, [], rfl, .inr ⟨rfl, rfl, rfl, ad, rfl⟩⟩
    · have each : ∀ i, i < m → ∃ y : Nat, W.cell? (ad.add i) = some (.int .u8 (y : Int)) ∧ y < 256 := by
        intro i hi
        obtain ⟨cs', h1, h2⟩ := hx i hi
        rw [Nat.mul_one] at h1
        obtain ⟨_, hlen, hcell⟩ := World.cells?_some h1
        obtain ⟨y, rfl, hy⟩ := open_u8 h2
        have e0 := hcell 0 (by omega)
        have z : ∀ q : Addr, q.add 0 = q := fun q => by unfold Addr.add; cases q; simp
        rw [z] at e0
        exact ⟨y, by simpa using e0, hy⟩
      obtain ⟨T, hT⟩ := Deep.choose_lt each
      obtain ⟨b, off, spot⟩ := ad
      have c0 := (hT 0 (by omega)).1
      have hspot : spot = none := by simpa [Addr.add] using World.cell?_spot c0
      subst hspot
      have hbl : b < W.heap.size := World.block_lt_of_cell? W _ (by simpa [Addr.add] using c0)
      refine ⟨_, len, m, (List.range len).map T, rfl, .inl ⟨by simp, hl, by unfold maxLen at hm; omega, (fun e => by cases e), fun ad e => ?_, fun y hy => ?_⟩⟩
      · cases e
        refine ⟨b, off, rfl, hbl, fun i y hy => ?_⟩
        have hi : i < len := by have := (List.getElem?_eq_some_iff.1 hy).1; simpa using this
        have hti : y = T i := by rw [List.getElem?_map, List.getElem?_range hi] at hy; simpa using hy.symm
        subst hti
        have g0 := (hT i (by omega)).1
        rwa [Addr.add_lit] at g0
      · obtain ⟨i, hi, rfl⟩ := List.mem_map.1 hy
        exact (hT i (by have := List.mem_range.1 hi; omega)).2

theorem open_step {fuel : Nat} {cs : List Value} {x : DataW H × List MemPlace} (h : DataW.trod enc Tryd.prog W 0 (fun _ => true) true fuel 58 cs = some x) : ∃ s : Stp, TV W s cs ∧ cs.length = 4 := by
  obtain ⟨xs, n, _, rfl, hl, hlen, hf⟩ := DataW.trod_struct Tryd.underlying58 h
  rw [cellsStp] at hl
  match xs, hlen with
  | [y0, y1, y2, y3], _ =>
    have h0 : DataW.trod enc Tryd.prog W 0 (fun _ => true) true n 3 ((cs.drop 0).take (Tryd.prog.cellsOf 3)) = some y0 := hf 0 _ rfl
    rw [cellsInt] at h0
    have h1 : DataW.trod enc Tryd.prog W 0 (fun _ => true) true n 3 ((cs.drop 1).take (Tryd.prog.cellsOf 3)) = some y1 := hf 1 _ rfl
    rw [cellsInt] at h1
    have h2 : DataW.trod enc Tryd.prog W 0 (fun _ => true) true n 3 ((cs.drop 2).take (Tryd.prog.cellsOf 3)) = some y2 := hf 2 _ rfl
    rw [cellsInt] at h2
    have h3 : DataW.trod enc Tryd.prog W 0 (fun _ => true) true n 46 ((cs.drop 3).take (Tryd.prog.cellsOf 46)) = some y3 := hf 3 _ rfl
    rw [cellsSl] at h3
    obtain ⟨fo, e0, i0⟩ := open_int1 h0
    obtain ⟨ki, e1, i1⟩ := open_int1 h1
    obtain ⟨no, e2, i2⟩ := open_int1 h2
    obtain ⟨a, dn, dc, data, e3, hB⟩ := open_bytes' h3
    refine ⟨⟨fo, ki, no, data⟩, ⟨i0, i1, i2, a, dn, dc, ?_, hB⟩, hl⟩
    have q4 : cs.drop 4 = [] := List.drop_eq_nil_of_le (by omega)
    have q3 : cs.drop 3 = [.slice a dn dc] := by rw [drop_parts cs 3 1 4 rfl, e3, q4]; rfl
    have q2 : cs.drop 2 = [.int .i64 no] ++ [.slice a dn dc] := by rw [drop_parts cs 2 1 3 rfl, e2, q3]
    have q1 : cs.drop 1 = [.int .i64 ki] ++ ([.int .i64 no] ++ [.slice a dn dc]) := by rw [drop_parts cs 1 1 2 rfl, e1, q2]
    have q0 : cs.drop 0 = [.int .i64 fo] ++ ([.int .i64 ki] ++ ([.int .i64 no] ++ [.slice a dn dc])) := by rw [drop_parts cs 0 1 1 rfl, e0, q1]
    exact q0

theorem open_steps {a : Option Addr} {n c : Nat} {d : DataW H} {p : List MemPlace} (h : DataW.Trod enc Tryd.prog W 0 (fun _ => true) true 22 (.slice a n c) d p) : ∃ l, SS W a n c l := by
  obtain ⟨fuel, hf⟩ := h
  have hf' : DataW.trod enc Tryd.prog W 0 (fun _ => true) true fuel 22 [.slice a n c] = some (d, p) := by simpa [Value.cells] using hf
  rcases Deep.open_slice Tryd.underlying22 hf' with ⟨hcs, _⟩ | ⟨ad, len, cap, m, k, D, Pl, hcs, hb, hl, hm, hmm, _, hx⟩
  · simp at hcs
    obtain ⟨rfl, rfl, rfl⟩ := hcs
    exact ⟨[], RS.nil0 _ _ _⟩
  · simp at hcs
    obtain ⟨rfl, rfl, rfl⟩ := hcs
    simp at hmm
    subst hmm
    rw [cellsStp] at hx
    have each : ∀ i, i < m → ∃ q : Stp × List Value, (∀ j u, q.2[j]? = some u → W.cell? ((ad.add (i * 4)).add j) = some u) ∧ TV W q.1 q.2 ∧ q.2.length = 4 := by
      intro i hi
      obtain ⟨cs', h1, h2⟩ := hx i hi
      obtain ⟨_, hlen, hcell⟩ := World.cells?_some h1
      obtain ⟨s, hs, hl4⟩ := open_step h2
      refine ⟨(s, cs'), fun j u hu => ?_, hs, hl4⟩
      have hj := (List.getElem?_eq_some_iff.1 hu).1
      have := hcell j (by rw [← hlen]; exact hj)
      rw [this]
      simpa using hu
    have : Inhabited (Stp × List Value) := ⟨(⟨0, 0, 0, []⟩, [])⟩
    obtain ⟨T, hT⟩ := Deep.choose_lt each
    have hrs : ∀ r ∈ (List.range n).map (fun i => (T i).2), r.length = 4 := fun r hr => by
      obtain ⟨i, hi, rfl⟩ := List.mem_map.1 hr
      exact (hT i (by have := List.mem_range.1 hi; omega)).2.2
    refine ⟨(List.range n).map (fun i => (T i).1), by simp, fun _ _ _ => trivial, (List.range n).map (fun i => (T i).2), ⟨?_, hl, hm, (fun e => by cases e), fun hn => ?_⟩, ⟨by simp, hrs, fun i e r he hr => ?_⟩⟩
    · rw [flat_len hrs]; simp
    · obtain ⟨b, off, spot⟩ := ad
      have hrow : ∀ i, i < n → ∀ j, j < 4 → ∃ u, (T i).2[j]? = some u := fun i hi j hj => ⟨_, List.getElem?_eq_getElem (by rw [(hT i (by omega)).2.2]; exact hj)⟩
      obtain ⟨u0, hu0⟩ := hrow 0 hn 0 (by omega)
      have c0 := (hT 0 (by omega)).1 0 u0 hu0
      have hspot : spot = none := by simpa [Addr.add] using World.cell?_spot c0
      subst hspot
      have hbl : b < W.heap.size := World.block_lt_of_cell? W _ (by simpa [Addr.add] using c0)
      refine ⟨b, off, rfl, hbl, fun j u hj => ?_⟩
      have hjl := (List.getElem?_eq_some_iff.1 hj).1
      rw [flat_len hrs] at hjl
      simp only [List.length_map, List.length_range] at hjl
      have hi : j / 4 < n := by omega
      obtain ⟨v, hv⟩ := hrow (j / 4) hi (j % 4) (by omega)
      have hg := flat_get (i := j / 4) (j := j % 4) hrs (r := (T (j / 4)).2) (by simp [hi]) hv
      rw [show j / 4 * 4 + j % 4 = j by omega, hj] at hg
      cases hg
      have := (hT (j / 4) (by omega)).1 _ _ hv
      rw [Addr.add_lit, Addr.add_lit] at this
      rw [show off + j = off + j / 4 * 4 + j % 4 by omega]
      exact this
    · have hi : i < n := by have := (List.getElem?_eq_some_iff.1 he).1; simpa using this
      rw [List.getElem?_map, List.getElem?_range hi] at he hr
      simp at he hr
      subst he hr
      exact (hT i (by omega)).2.1
end
end Go.Proofs.YtgfmdjagamjpbaaDoor
namespace Go.Proofs.YtgfmdjagamjpbaaDoor
open Go.RowKit Go.Mem
open Go.Sto (Ent Lg St Stp)

/-- what the loops keep: the step's box, the three stores and their boxes. -/
structure ApW (w : World) (tb g5 g7 g10 : Nat) (R4 : List Value) (s p q : St) (a5 a7 a10 : Option Addr) (c5 c7 c10 : Nat) (wr : World) : Prop where
  bx : Blk wr tb 58 R4
  b5 : Blk wr g5 26 (stC s a5 s.logs.length c5)
  s5 : SV (fun _ => True) wr a5 s.logs.length c5 s
  b7 : Blk wr g7 26 (stC p a7 p.logs.length c7)
  s7 : SV (fun _ => True) wr a7 p.logs.length c7 p
  b10 : Blk wr g10 26 (stC q a10 q.logs.length c10)
  s10 : SV (fun _ => True) wr a10 q.logs.length c10 q
  bel : Below w.heap.size w wr
theorem ApW.next {w : World} {tb g5 g7 g10 : Nat} {R4 : List Value} {s p q : St} {a5 a7 a10 : Option Addr} {c5 c7 c10 : Nat} {wr wq : World} (h : ApW w tb g5 g7 g10 R4 s p q a5 a7 a10 c5 c7 c10 wr) (hb : Below wr.heap.size wr wq) : ApW w tb g5 g7 g10 R4 s p q a5 a7 a10 c5 c7 c10 wq :=
  ⟨h.bx.below hb h.bx.lt, h.b5.below hb h.b5.lt, h.s5.below hb, h.b7.below hb h.b7.lt, h.s7.below hb, h.b10.below hb h.b10.lt, h.s10.below hb, h.bel.trans (hb.mono h.bel.size)⟩

set_option maxRecDepth 100000 in
set_option maxHeartbeats 16000000 in
theorem apart_walk (a : Option Addr) (n c : Nat) (l : List Stp) (x : Stp) (hf : I64 x.folder) (hk : I64 x.kind) (hn : I64 x.no) (da : Option Addr) (dn dc : Nat) (w : World) (HT : Tabs w) (HS : SS w a n c l) (HD : BW w da dn dc x.data) :
    Calls Tryd.prog 5 #[.slice a n c, .agg (stpC x da dn dc).toArray] w (RetBo true w) := by
  obtain ⟨fo, ki, xn, data⟩ := x
  show Calls _ _ #[.slice a n c, .agg #[.int .i64 fo, .int .i64 ki, .int .i64 xn, .slice da dn dc]] _ _
  simp only [] at hf hk hn HD
  have HT' := Lib.hid HT; have HS' := Lib.hid HS; have HD' := Lib.hid HD
  clear HT HS HD
  obtain ⟨V, hV⟩ : ∃ V, Hid (Sto.playS l = V) := ⟨_, rfl⟩
  have hpl := Lib.hid (fun W hT hS => play_any a n c l W hT hS)
  rw [hV.out] at hpl
  obtain ⟨s, ok⟩ := V
  obtain ⟨X, hX⟩ : ∃ X, X = RetBo true w := ⟨_, rfl⟩
  have hfin : Hid (∀ W, Below w.heap.size w W → X (.returned (.bool true)) W) := fun W h => by rw [hX]; exact ⟨rfl, h⟩
  rw [← hX]
  clear hX
  obtain ⟨tb, htb⟩ : ∃ tb, Hid (w.heap.size = tb) := ⟨_, rfl⟩
  have hbx : Hid (Blk (w.alloc (.cells #[.int .i64 fo, .int .i64 ki, .int .i64 xn, .slice da dn dc] 58)) tb 58 [.int .i64 fo, .int .i64 ki, .int .i64 xn, .slice da dn dc]) := by rw [← htb.out]; exact Blk.new w _ _
  have hbw : Hid (Below w.heap.size w (w.alloc (.cells #[.int .i64 fo, .int .i64 ki, .int .i64 xn, .slice da dn dc] 58))) := (Below.refl _ w).alloc (Nat.le_refl _) _
  go_enter Tryd.func5, Tryd.ntmps5
  go_wp2_with fail
  rw [htb.out]
  generalize w.alloc (.cells #[.int .i64 fo, .int .i64 ki, .int .i64 xn, .slice da dn dc] 58) = w0 at *
  refine (sane_any _ (HT'.out.below hbw.out)).mono ?_
  rintro e w1 ⟨rfl, hb⟩
  replace hbx := Lib.hid (hbx.out.below hb hbx.out.lt)
  replace hbw := Lib.hid (hbw.out.trans (hb.mono hbw.out.size))
  clear hb
  go_wp2_with fail
  refine (hpl.out _ (HT'.out.below hbw.out) (HS'.out.below hbw.out)).mono ?_
  rintro e w2 ⟨a5, c5, rfl, hS, hb⟩
  replace hbx := Lib.hid (hbx.out.below hb hbx.out.lt)
  replace hbw := Lib.hid (hbw.out.trans (hb.mono hbw.out.size))
  clear hb
  have hS5 := Lib.hid hS
  clear hS hpl
  obtain ⟨v2, hP⟩ : ∃ V, Hid (PutR 26 (w2.alloc (.cells ([.int .i64 0, .int .i64 0, .slice none 0 0] : List Value).toArray 26)) V w2.heap.size 26 (stC s a5 s.logs.length c5)) := put_row (Blk.new w2 26 ([.int .i64 0, .int .i64 0, .slice none 0 0])) rfl (sizeSto) (stC_ones _ _ _ _)
  have hst := below_grown ((Below.refl _ w2).alloc (Nat.le_refl _) _) hP.out.grown (by simp) (Nat.le_refl _)
  replace hbx := Lib.hid (hbx.out.below hst hbx.out.lt)
  replace hS5 := Lib.hid (hS5.out.below hst)
  replace hbw := Lib.hid (hbw.out.trans (hst.mono hbw.out.size))
  clear hst
  have hB5 := Lib.hid hP.out.blk
  have t0 := hbx.out.at_ (i := 0) rfl
  have t1 := hbx.out.at_ (i := 1) rfl
  have t2 := hbx.out.at_ (i := 2) rfl
  have t3 := hbx.out.at_ (i := 3) rfl
  cases ok with
  | false =>
    go_wp2_with (first
      | (refine wpList_store_mid (by rfl) 26 (.tmp 5) (.tmp 27) (by rfl) w2.heap.size 0 (stC s a5 s.logs.length c5).toArray (by rfl) (by rfl) hP.out.there hP.out.info (by simpa using hP.out.one) ?_
         generalize hWq : World.setCells _ _ _ _ = Wa
         obtain rfl : v2 = Wa := by rw [← hWq]; exact hP.out.eq
         clear hWq))
    exact hfin.out _ hbw.out
  | true =>
    by_cases hdn : 100 < dn
    · have hdn' : (100 : Int) < (dn : Int) := by omega
      go_wp2_with (first
        | (refine wpList_store_mid (by rfl) 26 (.tmp 5) (.tmp 27) (by rfl) w2.heap.size 0 (stC s a5 s.logs.length c5).toArray (by rfl) (by rfl) hP.out.there hP.out.info (by simpa using hP.out.one) ?_
           generalize hWq : World.setCells _ _ _ _ = Wa
           obtain rfl : v2 = Wa := by rw [← hWq]; exact hP.out.eq
           clear hWq))
      exact hfin.out _ hbw.out
    · have hdn' : ¬ (100 : Int) < (dn : Int) := by omega
      have hv := Lib.hid (Sto.play_valid hV.out)
      obtain ⟨V1, hV1⟩ : ∃ V, Hid (Sto.putS s fo ki data = V) := ⟨_, rfl⟩
      have hput := Lib.hid (fun W hT hS hD => Put_any a5 s.logs.length c5 s fo ki hf hk da dn dc data W hT hS hD (by omega))
      rw [hV1.out] at hput
      obtain ⟨p, no, er⟩ := V1
      obtain ⟨V2, hV2⟩ : ∃ V, Hid (Sto.delS s fo xn = V) := ⟨_, rfl⟩
      have hdel := Lib.hid (fun W hT hS => Delete_any a5 s.logs.length c5 s fo xn hf hn W hT hS)
      rw [hV2.out] at hdel
      obtain ⟨q, fr⟩ := V2
      have l0 := hB5.out.at_ (i := 0) rfl
      have l1 := hB5.out.at_ (i := 1) rfl
      have l2 := hB5.out.at_ (i := 2) rfl
      go_wp2_with (first
        | (refine wpList_store_mid (by rfl) 26 (.tmp 5) (.tmp 27) (by rfl) w2.heap.size 0 (stC s a5 s.logs.length c5).toArray (by rfl) (by rfl) hP.out.there hP.out.info (by simpa using hP.out.one) ?_
           generalize hWq : World.setCells _ _ _ _ = Wa
           obtain rfl : v2 = Wa := by rw [← hWq]; exact hP.out.eq
           clear hWq))
      clear l0 l1 l2 t0 t1 t2 t3 hP
      refine (hput.out _ (HT'.out.below hbw.out) hS5.out (HD'.out.below hbw.out)).mono ?_
      rintro e w3 ⟨a7, c7, rfl, hS, hb⟩
      clear hput
      replace hbx := Lib.hid (hbx.out.below hb hbx.out.lt)
      replace hS5 := Lib.hid (hS5.out.below hb)
      replace hB5 := Lib.hid (hB5.out.below hb hB5.out.lt)
      replace hbw := Lib.hid (hbw.out.trans (hb.mono hbw.out.size))
      clear hb
      have hS7 : Hid (SV (fun _ => True) w3 a7 p.logs.length c7 p) := hS.imp fun _ _ _ => trivial
      clear hS
      obtain ⟨v3, hP⟩ : ∃ V, Hid (PutR 26 (w3.alloc (.cells ([.int .i64 0, .int .i64 0, .slice none 0 0] : List Value).toArray 26)) V w3.heap.size 26 (stC p a7 p.logs.length c7)) := put_row (Blk.new w3 26 ([.int .i64 0, .int .i64 0, .slice none 0 0])) rfl (sizeSto) (stC_ones _ _ _ _)
      have hst := below_grown ((Below.refl _ w3).alloc (Nat.le_refl _) _) hP.out.grown (by simp) (Nat.le_refl _)
      replace hbx := Lib.hid (hbx.out.below hst hbx.out.lt)
      replace hS5 := Lib.hid (hS5.out.below hst)
      replace hB5 := Lib.hid (hB5.out.below hst hB5.out.lt)
      replace hS7 := Lib.hid (hS7.out.below hst)
      replace hbw := Lib.hid (hbw.out.trans (hst.mono hbw.out.size))
      clear hst
      have hB7 := Lib.hid hP.out.blk
      have l0 := hB5.out.at_ (i := 0) rfl
      have l1 := hB5.out.at_ (i := 1) rfl
      have l2 := hB5.out.at_ (i := 2) rfl
      have t0 := hbx.out.at_ (i := 0) rfl
      have t1 := hbx.out.at_ (i := 1) rfl
      have t2 := hbx.out.at_ (i := 2) rfl
      have t3 := hbx.out.at_ (i := 3) rfl
      go_wp2_with (first
        | (refine wpList_store_mid (by rfl) 26 (.tmp 7) (.tmp 46) (by rfl) w3.heap.size 0 (stC p a7 p.logs.length c7).toArray (by rfl) (by rfl) hP.out.there hP.out.info (by simpa using hP.out.one) ?_
           generalize hWq : World.setCells _ _ _ _ = Wa
           obtain rfl : v3 = Wa := by rw [← hWq]; exact hP.out.eq
           clear hWq))
      clear l0 l1 l2 t0 t1 t2 t3 hP
      refine (hdel.out _ (HT'.out.below hbw.out) hS5.out).mono ?_
      rintro e w4 ⟨a10, c10, rfl, hS, hb⟩
      clear hdel
      replace hbx := Lib.hid (hbx.out.below hb hbx.out.lt)
      replace hS5 := Lib.hid (hS5.out.below hb)
      replace hB5 := Lib.hid (hB5.out.below hb hB5.out.lt)
      replace hS7 := Lib.hid (hS7.out.below hb)
      replace hB7 := Lib.hid (hB7.out.below hb hB7.out.lt)
      replace hbw := Lib.hid (hbw.out.trans (hb.mono hbw.out.size))
      clear hb
      have hS10 : Hid (SV (fun _ => True) w4 a10 q.logs.length c10 q) := hS.imp fun _ _ _ => trivial
      clear hS
      obtain ⟨v4, hP⟩ : ∃ V, Hid (PutR 26 (w4.alloc (.cells ([.int .i64 0, .int .i64 0, .slice none 0 0] : List Value).toArray 26)) V w4.heap.size 26 (stC q a10 q.logs.length c10)) := put_row (Blk.new w4 26 ([.int .i64 0, .int .i64 0, .slice none 0 0])) rfl (sizeSto) (stC_ones _ _ _ _)
      have hst := below_grown ((Below.refl _ w4).alloc (Nat.le_refl _) _) hP.out.grown (by simp) (Nat.le_refl _)
      replace hbx := Lib.hid (hbx.out.below hst hbx.out.lt)
      replace hS5 := Lib.hid (hS5.out.below hst)
      replace hB5 := Lib.hid (hB5.out.below hst hB5.out.lt)
      replace hS7 := Lib.hid (hS7.out.below hst)
      replace hB7 := Lib.hid (hB7.out.below hst hB7.out.lt)
      replace hS10 := Lib.hid (hS10.out.below hst)
      replace hbw := Lib.hid (hbw.out.trans (hst.mono hbw.out.size))
      clear hst
      have hB10 := Lib.hid hP.out.blk
      go_wp2_with (first
        | (refine wpList_store_mid (by rfl) 26 (.tmp 10) (.tmp 56) (by rfl) w4.heap.size 0 (stC q a10 q.logs.length c10).toArray (by rfl) (by rfl) hP.out.there hP.out.info (by simpa using hP.out.one) ?_
           generalize hWq : World.setCells _ _ _ _ = Wa
           obtain rfl : v4 = Wa := by rw [← hWq]; exact hP.out.eq
           clear hWq))
      clear hP
      have hA0 : Hid (ApW w tb w2.heap.size w3.heap.size w4.heap.size [.int .i64 fo, .int .i64 ki, .int .i64 xn, .slice da dn dc] s p q a5 a7 a10 c5 c7 c10 v4) := ⟨hbx.out, hB5.out, hS5.out, hB7.out, hS7.out, hB10.out, hS10.out, hbw.out⟩
      clear hbx hB5 hS5 hB7 hS7 hB10 hS10 hbw hdn hdn' HS' HD'
      generalize w2.heap.size = g5 at *
      generalize w3.heap.size = g7 at *
      generalize w4.heap.size = g10 at *
      have hfs : Hid (∀ (u : St) (au : Option Addr) (cu : Nat) (k : Nat), Sto.chkS u = 0 → k < 16 → ∀ W, Tabs W → SV (fun _ => True) W au u.logs.length cu u → Calls Tryd.prog 10 #[.agg #[.int .i64 u.id, .int .i64 u.priv, .slice au u.logs.length cu], .int .i64 (k : Int), .int .i64 1] W (FetPost (Sto.ents u k) 0 W)) := fun u au cu k hu hk W hT hS => by
        have h := Fetch_any au u.logs.length cu u (k : Int) 1 ⟨by decide, by decide⟩ W hT hS
        rwa [Sto.fetch_all hu (by unfold Sto.folderB; rw [decide_eq_true_iff]; omega)] at h
      go_loopw [58] (fun i wr => ∃ k : Nat, k ≤ 16 ∧ i = .int .i64 k ∧ Hid (ApW w tb g5 g7 g10 [.int .i64 fo, .int .i64 ki, .int .i64 xn, .slice da dn dc] s p q a5 a7 a10 c5 c7 c10 wr)) (fun i _ => 16 - (intOf i).toNat)
      case atStart => exact ⟨0, Nat.zero_le _, rfl, hA0⟩
      case round =>
        obtain ⟨k, hk16, rfl, hA⟩ := hrel
        clear hA0
        by_cases hlt : k < 16
        · have k1 : (k : Int) < 16 := by omega
          have k0 : (0 : Int) ≤ (k : Int) := by omega
          obtain ⟨L, hL⟩ : ∃ L, Hid (Sto.ents s (k : Int) = L) := ⟨_, rfl⟩
          have hfe := Lib.hid (hfs.out s a5 c5 k hv.out hlt)
          rw [hL.out] at hfe
          have hLb : L.length ≤ 65536 := by rw [← hL.out]; exact Sto.ents_len hv.out _
          have m0 : (0 : Int) ≤ (L.length : Int) := by omega
          have m1 : (L.length : Int) ≤ 65536 := by omega
          have l0 := hA.out.b5.at_ (i := 0) rfl
          have l1 := hA.out.b5.at_ (i := 1) rfl
          have l2 := hA.out.b5.at_ (i := 2) rfl
          go_wp2_with fail
          clear l0 l1 l2
          refine (hfe.out _ (HT'.out.below hA.out.bel) hA.out.s5).mono ?_
          rintro e w5 ⟨a13, c13, rfl, hE, hb⟩
          replace hA := Lib.hid (hA.out.next hb)
          have hE13 : Hid (ES (fun _ => True) w5 a13 L.length c13 L) := hE.imp fun _ _ _ => trivial
          clear hE hb hfe
          go_upto_if 70 with fail
          go_cut [15] (fun _ wx => Hid (ApW w tb g5 g7 g10 [.int .i64 fo, .int .i64 ki, .int .i64 xn, .slice da dn dc] s p q a5 a7 a10 c5 c7 c10 wx) ∧ Hid (ES (fun _ => True) wx a13 L.length c13 L))
          case first =>
            by_cases he : er = 0
            · have he' := Lib.hid he
              have he1 : (er == 0) = true := by simp [he]
              clear he
              have hV10 : Sto.putS s fo ki data = (p, no, 0) := by rw [hV1.out, he'.out]
              obtain ⟨t, ht, htc⟩ := Sto.put_apart hv.out hV10 (k : Int)
              have hpv := Lib.hid (Sto.put_valid hv.out hV10)
              have hfe := Lib.hid (hfs.out p a7 c7 k hpv.out hlt)
              rw [ht, hL.out] at hfe
              clear ht hV10
              have l0 := hA.out.b7.at_ (i := 0) rfl
              have l1 := hA.out.b7.at_ (i := 1) rfl
              have l2 := hA.out.b7.at_ (i := 2) rfl
              rcases htc with rfl | ⟨ht1, hkf, hno⟩
              · rw [List.append_nil] at hfe
                go_wp2_with fail
                clear l0 l1 l2
                refine (hfe.out _ (HT'.out.below hA.out.bel) hA.out.s7).mono ?_
                rintro e w6 ⟨a15, c15, rfl, hE, hb⟩
                replace hA := Lib.hid (hA.out.next hb)
                replace hE13 := Lib.hid (hE13.out.below hb)
                have hE15 : Hid (ES (fun _ => True) w6 a15 L.length c15 L) := hE.imp fun _ _ _ => trivial
                clear hE hb hfe
                have hsl := fun W => slice_h hE15.out (Nat.le_refl L.length) W
                go_wp2_with fail
                refine (sameE_any (fun _ => True) (fun _ => True) a15 a13 L.length c15 c13 L _ hE15.out hE13.out).mono ?_
                rintro e w7 ⟨rfl, mq, rfl⟩
                have hA7 := Lib.hid (hA.out.next (below_drewQ (Below.refl _ w6) mq))
                have hE7 := Lib.hid (hE13.out.below (below_drewQ (Below.refl _ w6) mq))
                clear hA hE13 hE15 hsl
                go_wp2_with fail
                go_meet
                exact ⟨hA7, hE7⟩
              · rw [hL.out] at hno
                subst hkf hno
                obtain ⟨L', hL'⟩ : ∃ L', Hid (L ++ t = L') := ⟨_, rfl⟩
                have hln : Hid (L'.length = L.length + 1) := by show _ = _; rw [← hL'.out, List.length_append, ht1]
                have htk : Hid (L'.take L.length = L) := by show _ = _; rw [← hL'.out]; simp
                rw [hL'.out] at hfe
                go_wp2_with fail
                clear l0 l1 l2
                refine (hfe.out _ (HT'.out.below hA.out.bel) hA.out.s7).mono ?_
                rintro e w6 ⟨a15, c15, rfl, hE, hb⟩
                replace hA := Lib.hid (hA.out.next hb)
                replace hE13 := Lib.hid (hE13.out.below hb)
                rw [hln.out] at hE ⊢
                have hE15 : Hid (ES (fun _ => True) w6 a15 (L.length + 1) c15 L') := hE.imp fun _ _ _ => trivial
                clear hE hb hfe
                have hsl := fun W => slice_h hE15.out (k := L.length) (by omega) W
                have hE16 := hE15.out.take (k := L.length) (by omega)
                rw [htk.out] at hE16
                have hE16' := Lib.hid hE16
                clear hE16 hE15
                have b0 := hA.out.bx.at_ (i := 0) rfl
                go_wp2_with fail
                clear b0
                refine (sameE_any (fun _ => True) (fun _ => True) a15 a13 L.length c15 c13 L _ hE16'.out hE13.out).mono ?_
                rintro e w7 ⟨rfl, mq, rfl⟩
                have hA7 := Lib.hid (hA.out.next (below_drewQ (Below.refl _ w6) mq))
                have hE7 := Lib.hid (hE13.out.below (below_drewQ (Below.refl _ w6) mq))
                have b0 := hA7.out.bx.at_ (i := 0) rfl
                clear hA hE13 hE16' hsl
                go_wp2_with fail
                go_meet
                exact ⟨hA7, hE7⟩
            · have he1 : (er == 0) = false := by simp [he]
              clear he
              go_wp2_with fail
              go_meet
              exact ⟨hA, hE13⟩
          case rest =>
            obtain ⟨hAc, hEc⟩ := hcut
            clear hA hE13
            by_cases hf0 : fr = 0
            · have hf1 : (fr == 0) = true := by simp [hf0]
              have hV20 : Sto.delS s fo xn = (q, 0) := by rw [hV2.out, hf0]
              clear hf0
              obtain ⟨hlen2, hat⟩ := Sto.del_at hV20 (k : Int)
              have hqv := Lib.hid (Sto.del_valid hv.out hV20)
              have hfe := Lib.hid (hfs.out q a10 c10 k hqv.out hlt)
              rw [hL.out] at hlen2 hat
              obtain ⟨L2, hL2⟩ : ∃ L2, Hid (Sto.ents q (k : Int) = L2) := ⟨_, rfl⟩
              rw [hL2.out] at hlen2 hat hfe
              have hlen2' := Lib.hid hlen2; have hat' := Lib.hid hat
              clear hlen2 hat hV20
              have l0 := hAc.out.b10.at_ (i := 0) rfl
              have l1 := hAc.out.b10.at_ (i := 1) rfl
              have l2 := hAc.out.b10.at_ (i := 2) rfl
              go_wp2_with fail
              clear l0 l1 l2
              refine (hfe.out _ (HT'.out.below hAc.out.bel) hAc.out.s10).mono ?_
              rintro e w8 ⟨a18, c18, rfl, hE, hb⟩
              replace hAc := Lib.hid (hAc.out.next hb)
              replace hEc := Lib.hid (hEc.out.below hb)
              rw [hlen2'.out] at hE ⊢
              have hE18' : Hid (ES (fun _ => True) w8 a18 L.length c18 L2) := hE.imp fun _ _ _ => trivial
              clear hE hb hfe
              go_wp2_with fail
              go_loopw [139] (fun i wr => ∃ j : Nat, j ≤ L.length ∧ i = .int .i64 j ∧ Hid (ApW w tb g5 g7 g10 [.int .i64 fo, .int .i64 ki, .int .i64 xn, .slice da dn dc] s p q a5 a7 a10 c5 c7 c10 wr) ∧ Hid (ES (fun _ => True) wr a13 L.length c13 L) ∧ Hid (ES (fun _ => True) wr a18 L.length c18 L2)) (fun i _ => L.length - (intOf i).toNat)
              case atStart => exact ⟨0, Nat.zero_le _, rfl, hAc, hEc, hE18'⟩
              case round =>
                obtain ⟨j, hj, rfl, hA, hE13, hE18⟩ := hrel
                clear hAc hEc hE18'
                by_cases hjl : j < L.length
                · have j0 : (0 : Int) ≤ (j : Int) := by omega
                  have j1 : (j : Int) < (L.length : Int) := by omega
                  have he : L[j]? = some L[j] := List.getElem?_eq_getElem hjl
                  obtain ⟨hnot, hyes⟩ := hat'.out j _ he
                  generalize L[j] = e at *
                  by_cases hh : (k : Int) = fo ∧ (j : Int) + 1 = xn
                  · clear hnot
                    obtain ⟨he2, hk4⟩ := hyes hh
                    obtain ⟨hh1, hh2⟩ := hh
                    obtain ⟨b1, o1, r1, rfl, _, _, ⟨ho, da1, dn1, dc1, er1, hbk1⟩, hrl1, hrg1⟩ := hE13.out.rs.get he
                    obtain ⟨b2, o2, r2, rfl, _, _, ⟨ho2, da2, dn2, dc2, er2, hbk2⟩, hrl2, hrg2⟩ := hE18.out.rs.get he2
                    subst er1 er2
                    have q1 := EntR.of hrg1 ho.dig
                    have q2 := EntR.of hrg2 ho2.dig
                    have z2 := hbk2.bs.len
                    have hz : dn2 = 0 := by rw [← z2]; rfl
                    subst hz
                    have y1 := q2.kind
                    rw [show (Sto.delE e).kind = 4 from hk4] at y1
                    have y2 := q2.data
                    have y3 := q2.gone
                    rw [show (Sto.delE e).gone = true from rfl] at y3
                    have d1 := Lib.hid q1.dig
                    have d2 := Lib.hid q2.dig
                    rw [show (Sto.delE e).dig = e.dig from rfl] at d2
                    have hdi : Hid ((Tryd.prog.info? 35).map (·.size) = some (bv e.dig).length) := by show _ = _; rw [bv_length, ho.dig]; exact size35
                    have heq : ∀ W, (Op.equalIn 10000 35 (.agg (bv e.dig).toArray) (.agg (bv e.dig).toArray)).run Tryd.prog W = .ok true W := fun W => by
                      have := eq_dig (x := e.dig) (y := e.dig) ⟨ho.dig, ho.lt⟩ ⟨ho.dig, ho.lt⟩ W
                      rwa [decide_eq_true rfl] at this
                    obtain ⟨eD, heD⟩ : ∃ eD, eD = bv e.dig := ⟨_, rfl⟩
                    rw [← heD] at heq d1 d2 hdi
                    clear q1 q2 hrg1 hrg2 hrl1 hrl2 heD ho ho2 he he2 hbk1 hbk2 hk4 z2
                    subst hh1 hh2
                    have s0 := hA.out.bx.at_ (i := 0) rfl
                    have s2 := hA.out.bx.at_ (i := 2) rfl
                    go_wp2_with fail
                    clear s0 s2
                    refine wp_region_quiet_lit (by kernel_rfl) (by kernel_rfl) ?_
                    repeat (first
                      | go_big_quiet_step (fail)
                      | (go_big_quiet_want
                         refine quiet_load_mid 35 (.tmp 191) rfl b2 (o2 + j * 35 + 1) (by rfl) eD _ d2.out Tryd.underlying35 (by rfl) hdi.out ?_
                         simp only [Act.put, List.setIfInBounds_toArray, List.set_cons_zero, List.set_cons_succ]
                         go_big_quiet_on)
                      | (go_big_quiet_want
                         refine quiet_load_mid 35 (.tmp 196) rfl b1 (o1 + j * 35 + 1) (by rfl) eD _ d1.out Tryd.underlying35 (by rfl) hdi.out ?_
                         simp only [Act.put, List.setIfInBounds_toArray, List.set_cons_zero, List.set_cons_succ]
                         go_big_quiet_on))
                    refine wpQuiet_nil ?_
                    rintro _ ⟨nq, rfl⟩
                    have hA3 := Lib.hid (hA.out.next (below_drewQ (Below.refl _ wr) nq))
                    have hE3 := Lib.hid (hE13.out.below (below_drewQ (Below.refl _ wr) nq))
                    have hE4 := Lib.hid (hE18.out.below (below_drewQ (Below.refl _ wr) nq))
                    go_wp2_with fail
                    exact ⟨⟨j + 1, by omega, by go_num, hA3, hE3, hE4⟩, by simp [intOf]; omega⟩
                  · have he2 := hnot hh
                    clear hyes hnot
                    by_cases hh1 : (k : Int) = fo
                    · have hh2 : ((j : Int) + 1 == xn) = false := by simpa using (fun h => hh ⟨hh1, h⟩)
                      clear hh
                      subst hh1
                      obtain ⟨u1, hr1, hF1⟩ := slice_mid hE13.out he
                      obtain ⟨u2, hr2, hF2⟩ := slice_mid hE18.out he2
                      have hsm : Hid (∀ m, Calls Tryd.prog 20 #[.slice u2 1 (c18 - j), .slice u1 1 (c13 - j)] (wr.drewN m) (fun e w' => e = .returned (.bool true) ∧ ∃ q, w' = (wr.drewN m).drewN q)) := fun m =>
                        sameE_any (fun _ => True) (fun _ => True) u2 u1 1 (c18 - j) (c13 - j) [e] _ (hF2.below (below_drewQ (Below.refl _ wr) m)) (hF1.below (below_drewQ (Below.refl _ wr) m))
                      clear hF1 hF2 he he2
                      have b0 := hA.out.bx.at_ (i := 0) rfl
                      have b2 := hA.out.bx.at_ (i := 2) rfl
                      go_wp2_with fail
                      clear b0 b2
                      go_quiet ((go_at_call 20; exact Calls.quiet_of (hsm.out _)))
                      have hA3 := Lib.hid (hA.out.next (below_drewQ (Below.refl _ wr) nq))
                      have hE3 := Lib.hid (hE13.out.below (below_drewQ (Below.refl _ wr) nq))
                      have hE4 := Lib.hid (hE18.out.below (below_drewQ (Below.refl _ wr) nq))
                      go_wp2_with fail
                      exact ⟨⟨j + 1, by omega, by go_num, hA3, hE3, hE4⟩, by simp [intOf]; omega⟩
                    · have hh2 : ((k : Int) == fo) = false := by simpa using hh1
                      clear hh hh1
                      obtain ⟨u1, hr1, hF1⟩ := slice_mid hE13.out he
                      obtain ⟨u2, hr2, hF2⟩ := slice_mid hE18.out he2
                      have hsm : Hid (∀ m, Calls Tryd.prog 20 #[.slice u2 1 (c18 - j), .slice u1 1 (c13 - j)] (wr.drewN m) (fun e w' => e = .returned (.bool true) ∧ ∃ q, w' = (wr.drewN m).drewN q)) := fun m =>
                        sameE_any (fun _ => True) (fun _ => True) u2 u1 1 (c18 - j) (c13 - j) [e] _ (hF2.below (below_drewQ (Below.refl _ wr) m)) (hF1.below (below_drewQ (Below.refl _ wr) m))
                      clear hF1 hF2 he he2
                      have b0 := hA.out.bx.at_ (i := 0) rfl
                      have b2 := hA.out.bx.at_ (i := 2) rfl
                      go_wp2_with fail
                      clear b0 b2
                      go_quiet ((go_at_call 20; exact Calls.quiet_of (hsm.out _)))
                      have hA3 := Lib.hid (hA.out.next (below_drewQ (Below.refl _ wr) nq))
                      have hE3 := Lib.hid (hE13.out.below (below_drewQ (Below.refl _ wr) nq))
                      have hE4 := Lib.hid (hE18.out.below (below_drewQ (Below.refl _ wr) nq))
                      go_wp2_with fail
                      exact ⟨⟨j + 1, by omega, by go_num, hA3, hE3, hE4⟩, by simp [intOf]; omega⟩
                · have hge : ¬ (j : Int) < (L.length : Int) := by omega
                  go_wp2_with fail
                  exact ⟨⟨k + 1, by omega, by go_num, hA⟩, by simp [intOf]; omega⟩
            · have hf1 : (fr == 0) = false := by simp [hf0]
              clear hf0
              go_wp2_with fail
              exact ⟨⟨k + 1, by omega, by go_num, hAc⟩, by simp [intOf]; omega⟩
        · have hge : ¬ (k : Int) < 16 := by omega
          go_wp2
          exact hfin.out _ hA.out.bel
end Go.Proofs.YtgfmdjagamjpbaaDoor
namespace Go.Proofs.YtgfmdjagamjpbaaDoor.lawApart
open Go.ChangeShapes Go.WideShapes Go.ChangeAt Go.RowKit Go.Mem
open Go.Proofs.YtgfmdjagamjpbaaDoor

set_option maxRecDepth 100000 in
theorem lifted (os : Os) (started : os.Started) (H : Type) (enc : TypeId × Value → H) :
    ReturnsInHanded {} Tryd.checked os 5 .any (fun w args => (Rows.storeApartSpec.pre enc Tryd.prog Tryd.f5 [] false w args ∧ laidMetH Tryd.prog laid2 w) ∧ sizedMet enc Tryd.prog Tryd.f5 (OpenSpec.ofChange Rows.storeApartSpec) false w args)
      (Rows.storeApartSpec.post enc Tryd.prog Tryd.f5 false true false false) := by
  refine returnsInHanded_of_change_and (C := Tryd.checked) (X := fun w _ => laidMetH Tryd.prog laid2 w) (fun _ _ _ hh h => h.of_heap hh) own started (by kernel_rfl) Tryd.func5
    (ChangeSpec.witness_shaped (enc := enc) (C := Tryd.checked) (os := os) (X := fun w _ => laidMetH Tryd.prog laid2 w) false (World.doorLaid Tryd.prog 400 os) #[.slice none 0 0, .agg #[.int .i64 0, .int .i64 0, .int .i64 0, .slice none 0 0]] 8 rfl (World.shaped_of_RefB (by kernel_rfl) (by kernel_rfl)) (by kernel_rfl) (by kernel_rfl) (by kernel_rfl) (door_met os _)) ?_
  intro W base args ds gs before hval0 hW _ _ hL _
  have hval : ∀ (j : Nat) t v, Tryd.f5.params[j]? = some t → args[j]? = some v → Value.okWide Tryd.prog W .any base t v := hval0
  have hW' := hW
  obtain ⟨p, q, hA0, hV, rfl, hfz, hnd⟩ := hW
  have hA : DataW.TrodAll enc Tryd.prog W 0 (fun _ => true) true Tryd.f5.params.toList args.toList ds p := hA0
  rw [Tryd.params5] at hA hval
  obtain ⟨v0, vs0, d0, ds0, p0, q0, hargs, rfl, rfl, h0, r0⟩ := trodAll_cons hA
  obtain ⟨v1, vs1, d1, ds1, p1, q1, rfl, rfl, rfl, h1, r1⟩ := trodAll_cons r0
  obtain ⟨rfl, rfl, rfl⟩ := trodAll_nil r1
  obtain rfl : args = #[v0, v1] := by cases args; simp_all
  obtain ⟨rfl, rfl⟩ := trodVars_none hV
  have lt0 : ∀ x ∈ p0, x.block < W.heap.size := by obtain ⟨m, hm⟩ := h0; exact DataW.trod_lt m _ _ _ hm
  have lt1 : ∀ x ∈ p1, x.block < W.heap.size := by obtain ⟨m, hm⟩ := h1; exact DataW.trod_lt m _ _ _ hm
  have k0' := h0
  have k1' := h1
  obtain ⟨a0, n0, c0, rfl⟩ := okWide_slice Tryd.underlying22 (hval 0 22 v0 rfl rfl)
  obtain ⟨l0, S0⟩ := open_steps h0
  obtain ⟨cs1, rfl, _⟩ := okWide_struct Tryd.underlying58 (hval 1 58 v1 rfl rfl)
  obtain ⟨m1, hm1⟩ := h1
  obtain ⟨x1, ⟨i1, j1, k1, a1, n1, c1, e1, B1⟩, _⟩ := open_step (cs := cs1.toList) (by simpa [Value.cells] using hm1)
  obtain rfl : cs1 = (stpC x1 a1 n1 c1).toArray := by rw [← e1]
  clear hm1 e1
  have hT := tabs_of_laid hL
  clear hA0 hval0
  refine (apart_walk a0 n0 c0 l0 x1 i1 j1 k1 a1 n1 c1 W hT S0 B1).mono fun e W' ⟨he, bel⟩ => ?_
  subst he
  exact ⟨_, rfl, _, _, _, [], _, [], hW', trodAll_mk1 (shut_bool Tryd.underlying4 _),
    (trodAll_cons_mk (Below.trod laidOut (by kernel_rfl) (of_decide_eq_true (by kernel_rfl)) k0' bel lt0) (trodAll_cons_mk (Below.trod laidOut (by kernel_rfl) (of_decide_eq_true (by kernel_rfl)) k1' bel lt1) trodAll_mk0)), rfl, bel.frame _, fun h => by cases h⟩

theorem over : Rows.StoreApartSaid :=
  OpenClaim.holds_of_wide 5 Tryd.f5 rfl rfl rfl rfl rfl rfl rfl ⟨rfl, rfl, rfl, rfl, rfl⟩ rfl rfl rfl rfl rfl (by kernel_rfl) Tryd.func5 (by kernel_rfl)
    (of_decide_eq_true (by kernel_rfl)) (by unfold Func.isWrapper; first | (rw [if_pos (by decide +kernel)]; kernel_rfl) | (rw [if_neg (by decide +kernel)]; exact ⟨rfl, rfl⟩))
    (fun os started H enc _ => lifted os started H enc)

theorem proved : Rows.StoreApartCardSaid :=
  Claim7.holds_tied_plain_at .later [] [.data, .data] true (true, "f488a35397967aefade51eef8664caa68c041adfc501cfb8a4ac36b015989e3d") false
    over (fun _ h => by cases h) (by kernel_rfl) (fun _ h => by cases h) storeApart_row_tie rfl ⟨rfl, rfl⟩ (by kernel_rfl) rfl
    (fun f fn hf hfn => by
      obtain rfl : f = 5 := Option.some.inj ((show Tryd.prog.funcNamed "chartroom/chartroomlaw30.StoreApart" = some 5 by kernel_rfl).symm.trans hf) |>.symm
      obtain rfl : fn = Tryd.f5 := (Option.some.inj (Tryd.func5.symm.trans hfn)).symm
      exact ⟨by kernel_rfl, fun j t ht => by
        rw [Tryd.params5] at ht
        have hm : t ∈ [22, 58] := by simpa using Array.mem_of_getElem? ht
        have hall : ([22, 58].all fun u => !Tryd.prog.wantsStandIn u) = true := by kernel_rfl
        exact (show Tryd.prog.wantsStandIn t = false by simpa using List.all_eq_true.1 hall t hm)⟩)
    (by kernel_rfl)
#print axioms proved
end Go.Proofs.YtgfmdjagamjpbaaDoor.lawApart

