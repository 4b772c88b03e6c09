/- StoreOnce: for all steps, numbers and data the law returns true and its arguments read as before; the package variables digest.start and digest.numbers are as the program's text lays them (the tied card); no other condition. -/
import Derived.Test.YtgfmdjagamjpbaaDoorSnp
import Derived.Test.YtgfmdjagamjpbaaDoorOpa
import Derived.Test.YtgfmdjagamjpbaaDoorSne
import Derived.Test.YtgfmdjagamjpbaaDoorIdx
import Derived.Test.YtgfmdjagamjpbaaDoorCards
import Derived.Test.YtgfmdjagamjpbaaDoorTie
import Derived.SevenTiedAt
namespace Go.Sto
structure Stp where
  folder : Int
  kind : Int
  no : Int
  data : List Nat
def stepS (s : St) (x : Stp) : St :=
  if x.kind = 0 then (if (delS s x.folder x.no).2 = 0 then (delS s x.folder x.no).1 else s)
  else (if (putS s x.folder x.kind x.data).2.2 = 0 then (putS s x.folder x.kind x.data).1 else s)
def playGo (s : St) : List Stp → St × Bool
  | [] => (s, true)
  | x :: r => if 100 < x.data.length then (s, false) else playGo (stepS s x) r
def newSt : St := ⟨2, 5, []⟩
def playS (l : List Stp) : St × Bool := if 10 < l.length then (zeroS, false) else playGo newSt l
theorem step_del0 {s y : St} {x : Stp} (hk : x.kind = 0) (h : delS s x.folder x.no = (y, 0)) : stepS s x = y := by simp [stepS, hk, h]
theorem step_del1 {s y : St} {x : Stp} {q : Int} (hk : x.kind = 0) (h : delS s x.folder x.no = (y, q)) (hq : q ≠ 0) : stepS s x = s := by simp [stepS, hk, h, hq]
theorem step_put0 {s y : St} {x : Stp} {no : Int} (hk : x.kind ≠ 0) (h : putS s x.folder x.kind x.data = (y, no, 0)) : stepS s x = y := by simp [stepS, hk, h]
theorem step_put1 {s y : St} {x : Stp} {no q : Int} (hk : x.kind ≠ 0) (h : putS s x.folder x.kind x.data = (y, no, q)) (hq : q ≠ 0) : stepS s x = s := by simp [stepS, hk, h, hq]
end Go.Sto
namespace Go.Proofs.YtgfmdjagamjpbaaDoor
open Go.RowKit Go.Mem
open Go.Sto (Ent Lg St Stp)

def stpC (x : Stp) (a : Option Addr) (n c : Nat) : List Value := [.int .i64 x.folder, .int .i64 x.kind, .int .i64 x.no, .slice a n c]
/-- a row that reads as a step. -/
def TV (w : World) (x : Stp) (r : List Value) : Prop := I64 x.folder ∧ I64 x.kind ∧ I64 x.no ∧ ∃ a n c, r = stpC x a n c ∧ BW w a n c x.data
/-- a slice of steps. -/
def SS (w : World) (a : Option Addr) (n c : Nat) (l : List Stp) : Prop := RS 4 TV (fun _ => True) w a n c l
theorem SS.below {w w' : World} {a : Option Addr} {n c : Nat} {l : List Stp} (h : SS w a n c l) (hb : Below w.heap.size w w') : SS w' a n c l :=
  RS.keep h (.below hb) fun _ _ ⟨h1, h2, h3, a, n, c, e, h4⟩ => ⟨h1, h2, h3, a, n, c, e, h4.below hb⟩
theorem stpC_one (x : Stp) (a : Option Addr) (n c : Nat) : ∀ u ∈ stpC x a n c, u.oneCell' = true := by
  intro u hu
  simp only [stpC, List.mem_cons, List.not_mem_nil, or_false] at hu
  rcases hu with rfl | rfl | rfl | rfl <;> rfl
theorem sizeSto : (Tryd.prog.info? 26).map (·.size) = some 3 := by kernel_rfl
theorem stC_ones (s : St) (a : Option Addr) (n c : Nat) : ∀ u ∈ stC s a n c, u.oneCell' = true := by
  intro u hu
  simp only [stC, List.mem_cons, List.not_mem_nil, or_false] at hu
  rcases hu with rfl | rfl | rfl <;> rfl
theorem sizeStp : (Tryd.prog.info? 58).map (·.size) = some 4 := by kernel_rfl
def PlayPost (s : St) (b : Bool) (w : World) (e : Ending) (w' : World) : Prop :=
  ∃ a c, e = .returned (.tuple #[.agg #[.int .i64 s.id, .int .i64 s.priv, .slice a s.logs.length c], .bool b]) ∧ SV (fun _ => True) w' a s.logs.length c s ∧ Below w.heap.size w w'
theorem play_ret {W : World} {tb : Nat} {x0 x1 x2 : Value} {b : Bool} (hB : Blk W tb 26 [x0, x1, x2]) {a : Act} (hp : a.tmps.getD 2 undef = .pointer (some ⟨tb, 0, none⟩)) (hq : a.tmps.getD 3 undef = .bool b) (hd : a.defers = []) {Post : Ending → World → Prop} (hP : Post (.returned (.tuple #[.agg #[x0, x1, x2], .bool b])) W) :
    bodyPost Tryd.prog Tryd.f8 Post .ret a W := by
  have c0 := hB.at_ (i := 0) rfl
  have c1 := hB.at_ (i := 1) rfl
  have c2 := hB.at_ (i := 2) rfl
  refine bodyPost_ret (v := .tuple #[.agg #[x0, x1, x2], .bool b]) ?_ hd hP
  rw [results_cell_tmp rfl, hp, hq]
  simp [go_sem, c0, c1, c2]

/-- what the loop keeps: the store's box, what it holds, and that nothing older has changed. -/
structure PlyW (w : World) (tb : Nat) (s : St) (a : Option Addr) (c : Nat) (wr : World) : Prop where
  box : Blk wr tb 26 (stC s a s.logs.length c)
  sv : SV (fun b => tb < b) wr a s.logs.length c s
  bel : Below w.heap.size w wr
theorem PlyW.next {w wr wq : World} {tb : Nat} {s : St} {a : Option Addr} {c : Nat} (h : PlyW w tb s a c wr) (hb : Below wr.heap.size wr wq) : PlyW w tb s a c wq :=
  ⟨h.box.below hb h.box.lt, h.sv.below hb, h.bel.trans (hb.mono h.bel.size)⟩
/-- the store s is written into the box anew. -/
theorem PlyW.put {w wr wq : World} {tb : Nat} {s s' : St} {a a' : Option Addr} {c c' : Nat} (h : PlyW w tb s a c wr) (hw : w.heap.size ≤ tb) (hP : PutR 26 wr wq tb 26 (stC s' a' s'.logs.length c')) (hS : SV (fun b => tb < b) wr a' s'.logs.length c' s') : PlyW w tb s' a' c' wq :=
  ⟨hP.blk, hS.keep (Keeps.grown hP.grown fun b hb e => by omega), below_grown h.bel hP.grown h.bel.size hw⟩
theorem PlyW.fin {w wr : World} {tb : Nat} {s : St} {a : Option Addr} {c : Nat} (h : PlyW w tb s a c wr) (b : Bool) : PlayPost s b w (.returned (.tuple #[.agg #[.int .i64 s.id, .int .i64 s.priv, .slice a s.logs.length c], .bool b])) wr :=
  ⟨a, c, rfl, h.sv.imp fun _ _ _ => trivial, h.bel⟩
/-- .. and its cells. -/
theorem box_put {W : World} {tb : Nat} {x : List Value} {s : St} {a : Option Addr} {n c : Nat} (h : Blk W tb 26 x) (hx : x.length = 3) : ∃ W9, PutR 26 W W9 tb 26 (stC s a n c) :=
  put_row h (by rw [hx]; rfl) sizeSto (stC_ones _ _ _ _)

theorem new25 (w : World) : Calls Tryd.prog 24 #[.int .i64 2, .int .i64 5] w (fun e w' => e = .returned (.tuple #[.agg #[.int .i64 2, .int .i64 5, .slice none 0 0], .int .i64 0]) ∧ Below w.heap.size w w') := by
  have h := New_any 2 5 w
  have e : Sto.newE 2 5 = 0 := by decide
  unfold NewPost at h
  rw [e, if_pos rfl] at h
  exact h
theorem sv_new {K : Nat → Prop} {w : World} : SV K w none Sto.newSt.logs.length 0 Sto.newSt := ⟨LS.nil0 _ _, ⟨by decide, by decide⟩, ⟨by decide, by decide⟩⟩

set_option maxRecDepth 20000 in
set_option maxHeartbeats 4000000 in
theorem play_any (a : Option Addr) (n c : Nat) (l : List Stp) (w : World) (HT : Tabs w) (H : SS w a n c l) :
    Calls Tryd.prog 8 #[.slice a n c] w (PlayPost (Sto.playS l).1 (Sto.playS l).2 w) := by
  have HT' := Lib.hid HT; have H' := Lib.hid H
  have hlen := H.len
  clear HT H
  obtain ⟨tb, htb⟩ : ∃ tb, Hid (w.heap.size = tb) := ⟨_, rfl⟩
  have hle : Hid (w.heap.size ≤ tb) := Nat.le_of_eq htb.out
  obtain ⟨W1, hW1⟩ : ∃ W1, W1 = w.alloc (.cells #[.int .i64 0, .int .i64 0, .slice none 0 0] 26) := ⟨_, rfl⟩
  have hP1 : Hid (PlyW w tb Sto.zeroS none 0 W1) := by
    rw [hW1, ← htb.out]
    exact ⟨Blk.new w _ _, SV.zero _ _, (Below.refl _ w).alloc (Nat.le_refl _) _⟩
  obtain ⟨X, hX⟩ : ∃ X, X = PlayPost (Sto.playS l).1 (Sto.playS l).2 w := ⟨_, rfl⟩
  rw [← hX]
  by_cases hn : 10 < n
  · have hXf : Hid (X = PlayPost Sto.zeroS false w) := by show _ = _; rw [hX]; unfold Sto.playS; rw [if_pos (by omega)]
    clear hX
    have hn' : (10 : Int) < (n : Int) := by omega
    go_enter Tryd.func8, Tryd.ntmps8
    go_upto_region 1 with fail
    rw [htb.out]
    generalize hg : World.alloc w _ = Wg
    obtain rfl : W1 = Wg := by rw [← hg, hW1]
    clear hg hW1
    obtain ⟨W2, hP⟩ := box_put (s := Sto.zeroS) (a := none) (n := Sto.zeroS.logs.length) (c := 0) hP1.out.box rfl
    have hP2 := Lib.hid hP
    have hP3 := Lib.hid (hP1.out.put hle.out hP hP1.out.sv)
    have c0 := hP1.out.box.at_ (i := 0) rfl
    have c1 := hP1.out.box.at_ (i := 1) rfl
    have c2 := hP1.out.box.at_ (i := 2) rfl
    clear hP hP1
    go_wp2_with (first
      | (refine wpList_store_mid (by rfl) 26 (.tmp 2) (.tmp 15) (by rfl) tb 0 (stC Sto.zeroS none Sto.zeroS.logs.length 0).toArray (by rfl) (by rfl) hP2.out.there hP2.out.info (by simpa using hP2.out.one) ?_
         generalize hWq : World.setCells _ _ _ _ = Wa
         obtain rfl : W2 = Wa := by rw [← hWq]; exact hP2.out.eq
         clear hWq))
    refine play_ret hP2.out.blk rfl rfl rfl ?_
    rw [hXf.out]
    exact hP3.out.fin false
  · have hXf : Hid (X = PlayPost (Sto.playGo Sto.newSt l).1 (Sto.playGo Sto.newSt l).2 w) := by show _ = _; rw [hX]; unfold Sto.playS; rw [if_neg (by omega)]
    clear hX
    have hn' : ¬ (10 : Int) < (n : Int) := by omega
    have n0 : (0 : Int) ≤ (n : Int) := by omega
    go_enter Tryd.func8, Tryd.ntmps8
    go_upto_region 1 with fail
    rw [htb.out]
    generalize hg : World.alloc w _ = Wg
    obtain rfl : W1 = Wg := by rw [← hg, hW1]
    clear hg hW1
    go_wp2_with fail
    refine (new25 _).mono ?_
    rintro e w2 ⟨rfl, hb2⟩
    have hP2 := Lib.hid (hP1.out.next hb2)
    obtain ⟨W3, hP⟩ := box_put (s := Sto.newSt) (a := none) (n := Sto.newSt.logs.length) (c := 0) hP2.out.box rfl
    have hPR := Lib.hid hP
    have hP3 := Lib.hid (hP2.out.put hle.out hP sv_new)
    clear hP hP1 hb2 hP2
    go_wp2_with (first
          | (refine wpList_store_mid (by rfl) 26 (.tmp 2) (.tmp 18) (by rfl) tb 0 (stC Sto.newSt none Sto.newSt.logs.length 0).toArray (by rfl) (by rfl) hPR.out.there hPR.out.info (by simpa using hPR.out.one) ?_
             generalize hWq : World.setCells _ _ _ _ = Wa
             obtain rfl : W3 = Wa := by rw [← hWq]; exact hPR.out.eq
             clear hWq))
    clear hPR
    go_loopw [25] (fun i wr => ∃ (k : Nat) (s : St) (sa : Option Addr) (sc : Nat), k ≤ n ∧ i = .int .i64 k ∧ Hid (PlyW w tb s sa sc wr) ∧ Hid (Sto.playGo Sto.newSt l = Sto.playGo s (l.drop k))) (fun i _ => n - (intOf i).toNat)
    case atStart => exact ⟨0, Sto.newSt, none, 0, Nat.zero_le _, rfl, hP3, rfl⟩
    case round =>
      obtain ⟨k, s, sa, sc, hk, rfl, hS, hf⟩ := hrel
      clear hP3
      by_cases hlt : k < n
      · have hkl : k < l.length := by omega
        have he : l[k]? = some l[k] := List.getElem?_eq_getElem hkl
        have hf' := hf.out
        rw [List.drop_eq_getElem_cons hkl, Sto.playGo] at hf'
        generalize l[k] = x at *
        obtain ⟨b, off, r, rfl, hbl, _, ⟨hi0, hi1, hi2, da, dn, dc, er, hbd⟩, hrl, hrg⟩ := RS.get (H'.out.below hS.out.bel) he
        subst er
        have x0 := hrg 0 _ rfl
        have x1 := hrg 1 _ rfl
        have x2 := hrg 2 _ rfl
        have x3 := hrg 3 _ rfl
        simp only [Nat.add_zero] at x0
        obtain ⟨W2, hP⟩ := put_row (ty := 58) (Blk.new wr 58 [.int .i64 0, .int .i64 0, .int .i64 0, .slice none 0 0]) (x := stpC x da dn dc) rfl sizeStp (stpC_one _ _ _ _)
        have hPR := Lib.hid hP
        have hst := below_grown ((Below.refl _ wr).alloc (Nat.le_refl _) _) hP.grown (by simp) (Nat.le_refl _)
        have hS2 := Lib.hid (hS.out.next hst)
        have hbd2 := Lib.hid (hbd.below hst)
        have y0 := hP.blk.at_ (i := 0) rfl
        have y1 := hP.blk.at_ (i := 1) rfl
        have y2 := hP.blk.at_ (i := 2) rfl
        have y3 := hP.blk.at_ (i := 3) rfl
        have k0 : (0 : Int) ≤ (k : Int) := by omega
        have k1 : (k : Int) < (n : Int) := by omega
        have hdl := hbd.len
        have hHT2 := Lib.hid (HT'.out.below hS2.out.bel)
        clear hP hst hrg hrl hbd hf he
        by_cases hd : 100 < dn
        · rw [if_pos (by omega)] at hf'
          have hd' : (100 : Int) < (dn : Int) := by omega
          obtain ⟨W3, hP⟩ := box_put (s := s) (a := sa) (n := s.logs.length) (c := sc) hS2.out.box rfl
          have hPR3 := Lib.hid hP
          have hS3 := Lib.hid (hS2.out.put hle.out hP hS2.out.sv)
          have hff := Lib.hid hf'
          clear hP hf' hS
          have c0 := hS2.out.box.at_ (i := 0) rfl
          have c1 := hS2.out.box.at_ (i := 1) rfl
          have c2 := hS2.out.box.at_ (i := 2) rfl
          clear hS2
          go_wp2_with (first
                | (refine wpList_store_mid (by rfl) 58 (.tmp 6) (.tmp 28) (by rfl) wr.heap.size 0 (stpC x da dn dc).toArray (by rfl) (by rfl) hPR.out.there hPR.out.info (by simpa using hPR.out.one) ?_
                   generalize hWq : World.setCells _ _ _ _ = Wa
                   obtain rfl : W2 = Wa := by rw [← hWq]; exact hPR.out.eq
                   clear hWq)
                | (refine wpList_store_mid (by rfl) 26 (.tmp 2) (.tmp 33) (by rfl) tb 0 (stC s sa s.logs.length sc).toArray (by rfl) (by rfl) hPR3.out.there hPR3.out.info (by simpa using hPR3.out.one) ?_
                   generalize hWq : World.setCells _ _ _ _ = Wa
                   obtain rfl : W3 = Wa := by rw [← hWq]; exact hPR3.out.eq
                   clear hWq))
          refine play_ret hPR3.out.blk rfl rfl rfl ?_
          rw [hXf.out, hff.out]
          exact hS3.out.fin false
        · rw [if_neg (by omega)] at hf'
          have hd' : ¬ (100 : Int) < (dn : Int) := by omega
          by_cases hkd : x.kind = 0
          · have hkd' : (x.kind == 0) = true := by simp [hkd]
            have hkh := Lib.hid hkd
            clear hkd
            have hcd := Lib.hid (Delete_any sa s.logs.length sc s x.folder x.no hi0 hi2 W2 hHT2.out (hS2.out.sv.imp fun _ _ _ => trivial))
            obtain ⟨V, hV⟩ : ∃ V, Hid (Sto.delS s x.folder x.no = V) := ⟨_, rfl⟩
            rw [hV.out] at hcd
            obtain ⟨y, q⟩ := V
            have hde := hV
            have hff := Lib.hid hf'
            clear hf' hS hV
            have c0 := hS2.out.box.at_ (i := 0) rfl
            have c1 := hS2.out.box.at_ (i := 1) rfl
            have c2 := hS2.out.box.at_ (i := 2) rfl
            go_wp2_with (first
              | (refine wpList_store_mid (by rfl) 58 (.tmp 6) (.tmp 28) (by rfl) wr.heap.size 0 (stpC x da dn dc).toArray (by rfl) (by rfl) hPR.out.there hPR.out.info (by simpa using hPR.out.one) ?_
                 generalize hWq : World.setCells _ _ _ _ = Wa
                 obtain rfl : W2 = Wa := by rw [← hWq]; exact hPR.out.eq
                 clear hWq))
            refine hcd.out.mono ?_
            rintro e w4 ⟨a4, c4, rfl, hS4, hb4⟩
            have hS4' := Lib.hid (hS2.out.next hb4)
            have htl : Hid (tb < w4.heap.size) := hS4'.out.box.lt
            have htl2 : Hid (tb < W2.heap.size) := hS2.out.box.lt
            have hPy := put_row (ty := 26) (Blk.new w4 26 [.int .i64 0, .int .i64 0, .slice none 0 0]) (x := stC y a4 y.logs.length c4) rfl sizeSto (stC_ones _ _ _ _)
            obtain ⟨W5, hP⟩ := hPy
            have hPR5 := Lib.hid hP
            have hst := below_grown ((Below.refl _ w4).alloc (Nat.le_refl _) _) hP.grown (by simp) (Nat.le_refl _)
            have hS5 := Lib.hid (hS4'.out.next hst)
            have hSy : Hid (SV (fun b => tb < b) W5 a4 y.logs.length c4 y) := (hS4.imp fun b _ h => Nat.lt_of_lt_of_le htl2.out h).below hst
            have z0 := hP.blk.at_ (i := 0) rfl
            have z1 := hP.blk.at_ (i := 1) rfl
            have z2 := hP.blk.at_ (i := 2) rfl
            clear hP hst hS4 hb4 hS2 c0 c1 c2
            by_cases hq0 : q = 0
            · subst hq0
              obtain ⟨W6, hP⟩ := box_put (s := y) (a := a4) (n := y.logs.length) (c := c4) hS5.out.box rfl
              have hPR6 := Lib.hid hP
              have hS6 := Lib.hid (hS5.out.put hle.out hP hSy.out)
              have hst0 := Lib.hid (Sto.step_del0 hkh.out hde.out)
              clear hP
              have c0 := hS5.out.box.at_ (i := 0) rfl
              have c1 := hS5.out.box.at_ (i := 1) rfl
              have c2 := hS5.out.box.at_ (i := 2) rfl
              go_wp2_with (first
                | (refine wpList_store_mid (by rfl) 26 (.tmp 7) (.tmp 44) (by rfl) w4.heap.size 0 (stC y a4 y.logs.length c4).toArray (by rfl) (by rfl) hPR5.out.there hPR5.out.info (by simpa using hPR5.out.one) ?_
                   generalize hWq : World.setCells _ _ _ _ = Wa
                   obtain rfl : W5 = Wa := by rw [← hWq]; exact hPR5.out.eq
                   clear hWq)
                | (refine wpList_store_mid (by rfl) 26 (.tmp 2) (.tmp 48) (by rfl) tb 0 (stC y a4 y.logs.length c4).toArray (by rfl) (by rfl) hPR6.out.there hPR6.out.info (by simpa using hPR6.out.one) ?_
                   generalize hWq : World.setCells _ _ _ _ = Wa
                   obtain rfl : W6 = Wa := by rw [← hWq]; exact hPR6.out.eq
                   clear hWq))
              exact ⟨⟨k + 1, y, a4, c4, by omega, by go_num, hS6, by show _ = _; rw [hff.out, hst0.out]⟩, by simp [intOf]; omega⟩
            · have hq : Hid (q ≠ 0) := hq0
              have hst1 := Lib.hid (Sto.step_del1 hkh.out hde.out hq.out)
              go_wp2_with (first
                | (refine wpList_store_mid (by rfl) 26 (.tmp 7) (.tmp 44) (by rfl) w4.heap.size 0 (stC y a4 y.logs.length c4).toArray (by rfl) (by rfl) hPR5.out.there hPR5.out.info (by simpa using hPR5.out.one) ?_
                   generalize hWq : World.setCells _ _ _ _ = Wa
                   obtain rfl : W5 = Wa := by rw [← hWq]; exact hPR5.out.eq
                   clear hWq))
              exact ⟨⟨k + 1, s, sa, sc, by omega, by go_num, hS5, by show _ = _; rw [hff.out, hst1.out]⟩, by simp [intOf]; omega⟩
          · have hkd' : (x.kind == 0) = false := by simp [hkd]
            have hkh := Lib.hid hkd
            clear hkd
            have hcd := Lib.hid (Put_any sa s.logs.length sc s x.folder x.kind hi0 hi1 da dn dc x.data W2 hHT2.out (hS2.out.sv.imp fun _ _ _ => trivial) hbd2.out (by omega))
            obtain ⟨V, hV⟩ : ∃ V, Hid (Sto.putS s x.folder x.kind x.data = V) := ⟨_, rfl⟩
            rw [hV.out] at hcd
            obtain ⟨y, no, q⟩ := V
            have hde := hV
            have hff := Lib.hid hf'
            clear hf' hS hV
            have c0 := hS2.out.box.at_ (i := 0) rfl
            have c1 := hS2.out.box.at_ (i := 1) rfl
            have c2 := hS2.out.box.at_ (i := 2) rfl
            go_wp2_with (first
              | (refine wpList_store_mid (by rfl) 58 (.tmp 6) (.tmp 28) (by rfl) wr.heap.size 0 (stpC x da dn dc).toArray (by rfl) (by rfl) hPR.out.there hPR.out.info (by simpa using hPR.out.one) ?_
                 generalize hWq : World.setCells _ _ _ _ = Wa
                 obtain rfl : W2 = Wa := by rw [← hWq]; exact hPR.out.eq
                 clear hWq))
            refine hcd.out.mono ?_
            rintro e w4 ⟨a4, c4, rfl, hS4, hb4⟩
            have hS4' := Lib.hid (hS2.out.next hb4)
            have htl : Hid (tb < w4.heap.size) := hS4'.out.box.lt
            have htl2 : Hid (tb < W2.heap.size) := hS2.out.box.lt
            have hPy := put_row (ty := 26) (Blk.new w4 26 [.int .i64 0, .int .i64 0, .slice none 0 0]) (x := stC y a4 y.logs.length c4) rfl sizeSto (stC_ones _ _ _ _)
            obtain ⟨W5, hP⟩ := hPy
            have hPR5 := Lib.hid hP
            have hst := below_grown ((Below.refl _ w4).alloc (Nat.le_refl _) _) hP.grown (by simp) (Nat.le_refl _)
            have hS5 := Lib.hid (hS4'.out.next hst)
            have hSy : Hid (SV (fun b => tb < b) W5 a4 y.logs.length c4 y) := (hS4.imp fun b _ h => Nat.lt_of_lt_of_le htl2.out h).below hst
            have z0 := hP.blk.at_ (i := 0) rfl
            have z1 := hP.blk.at_ (i := 1) rfl
            have z2 := hP.blk.at_ (i := 2) rfl
            clear hP hst hS4 hb4 hS2 c0 c1 c2
            by_cases hq0 : q = 0
            · subst hq0
              obtain ⟨W6, hP⟩ := box_put (s := y) (a := a4) (n := y.logs.length) (c := c4) hS5.out.box rfl
              have hPR6 := Lib.hid hP
              have hS6 := Lib.hid (hS5.out.put hle.out hP hSy.out)
              have hst0 := Lib.hid (Sto.step_put0 hkh.out hde.out)
              clear hP
              have c0 := hS5.out.box.at_ (i := 0) rfl
              have c1 := hS5.out.box.at_ (i := 1) rfl
              have c2 := hS5.out.box.at_ (i := 2) rfl
              go_wp2_with (first
                | (refine wpList_store_mid (by rfl) 26 (.tmp 9) (.tmp 58) (by rfl) w4.heap.size 0 (stC y a4 y.logs.length c4).toArray (by rfl) (by rfl) hPR5.out.there hPR5.out.info (by simpa using hPR5.out.one) ?_
                   generalize hWq : World.setCells _ _ _ _ = Wa
                   obtain rfl : W5 = Wa := by rw [← hWq]; exact hPR5.out.eq
                   clear hWq)
                | (refine wpList_store_mid (by rfl) 26 (.tmp 2) (.tmp 63) (by rfl) tb 0 (stC y a4 y.logs.length c4).toArray (by rfl) (by rfl) hPR6.out.there hPR6.out.info (by simpa using hPR6.out.one) ?_
                   generalize hWq : World.setCells _ _ _ _ = Wa
                   obtain rfl : W6 = Wa := by rw [← hWq]; exact hPR6.out.eq
                   clear hWq))
              exact ⟨⟨k + 1, y, a4, c4, by omega, by go_num, hS6, by show _ = _; rw [hff.out, hst0.out]⟩, by simp [intOf]; omega⟩
            · have hq : Hid (q ≠ 0) := hq0
              have hst1 := Lib.hid (Sto.step_put1 hkh.out hde.out hq.out)
              go_wp2_with (first
                | (refine wpList_store_mid (by rfl) 26 (.tmp 9) (.tmp 58) (by rfl) w4.heap.size 0 (stC y a4 y.logs.length c4).toArray (by rfl) (by rfl) hPR5.out.there hPR5.out.info (by simpa using hPR5.out.one) ?_
                   generalize hWq : World.setCells _ _ _ _ = Wa
                   obtain rfl : W5 = Wa := by rw [← hWq]; exact hPR5.out.eq
                   clear hWq))
              exact ⟨⟨k + 1, s, sa, sc, by omega, by go_num, hS5, by show _ = _; rw [hff.out, hst1.out]⟩, by simp [intOf]; omega⟩
      · have hge : ¬ (k : Int) < (n : Int) := by omega
        have hff : Hid (Sto.playGo Sto.newSt l = (s, true)) := by show _ = _; rw [hf.out, List.drop_eq_nil_of_le (by omega)]; rfl
        obtain ⟨W3, hP⟩ := box_put (s := s) (a := sa) (n := s.logs.length) (c := sc) hS.out.box rfl
        have hPR3 := Lib.hid hP
        have hS3 := Lib.hid (hS.out.put hle.out hP hS.out.sv)
        clear hP hf
        have c0 := hS.out.box.at_ (i := 0) rfl
        have c1 := hS.out.box.at_ (i := 1) rfl
        have c2 := hS.out.box.at_ (i := 2) rfl
        go_wp2_with (first
          | (refine wpList_store_mid (by rfl) 26 (.tmp 2) (.tmp 65) (by rfl) tb 0 (stC s sa s.logs.length sc).toArray (by rfl) (by rfl) hPR3.out.there hPR3.out.info (by simpa using hPR3.out.one) ?_
             generalize hWq : World.setCells _ _ _ _ = Wa
             obtain rfl : W3 = Wa := by rw [← hWq]; exact hPR3.out.eq
             clear hWq))
        refine play_ret hPR3.out.blk rfl rfl rfl ?_
        rw [hXf.out, hff.out]
        exact hS3.out.fin true
end Go.Proofs.YtgfmdjagamjpbaaDoor
namespace Go.Sto
theorem put_valid {s x : St} {f k no : Int} {d : List Nat} (hv : chkS s = 0) (h : putS s f k d = (x, no, 0)) : chkS x = 0 := by
  unfold putS at h
  split at h
  · rename_i ho
    split at h
    · rename_i hk
      split at h
      · cases h; exact hv
      · rename_i hi
        split at h
        · cases h
        · rename_i hl
          cases h
          exact replS_ok ho (putE_fine (ents_fine hv f) hk hi hl)
    · cases h
  · rename_i ho
    simp only [Prod.mk.injEq] at h
    exact absurd h.2.2 ho
theorem del_valid {s x : St} {f no : Int} (hv : chkS s = 0) (h : delS s f no = (x, 0)) : chkS x = 0 := by
  unfold delS at h
  split at h
  · rename_i ho
    split at h
    · rename_i hr
      split at h
      · rename_i e he
        split at h
        · rename_i hk
          cases h
          refine replS_ok ho ?_
          rcases ents_fine hv f with h0 | h0
          · rw [h0] at he; simp at he
          · exact delL_fine h0 he hk
        · cases h
      · cases h
    · cases h
  · rename_i ho
    simp only [Prod.mk.injEq] at h
    exact absurd h.2 ho
theorem step_valid {s : St} (hv : chkS s = 0) (x : Stp) : chkS (stepS s x) = 0 := by
  unfold stepS
  split
  · split
    · rename_i h; exact del_valid (no := x.no) (f := x.folder) hv (by rw [← h])
    · exact hv
  · split
    · rename_i h; exact put_valid (k := x.kind) (d := x.data) (f := x.folder) (no := (putS s x.folder x.kind x.data).2.1) hv (by rw [← h])
    · exact hv
theorem playGo_valid : ∀ (l : List Stp) {s : St}, chkS s = 0 → chkS (playGo s l).1 = 0
  | [], _, h => h
  | x :: r, s, h => by
    unfold playGo
    split
    · exact h
    · exact playGo_valid r (step_valid h x)
theorem play_valid {l : List Stp} {s : St} (h : playS l = (s, true)) : chkS s = 0 := by
  unfold playS at h
  split at h
  · cases h
  · have := playGo_valid l (s := newSt) (by decide)
    rw [h] at this
    exact this

theorem idx_snoc {l : List Ent} {e : Ent} (h : ¬ idxE e.dig l < l.length) : idxE e.dig (l ++ [e]) = l.length := by
  refine idxE_at (e := e) (by simp) rfl fun j x hj hx hd => ?_
  rw [List.getElem?_append_left hj] at hx
  exact idxE_not h (List.mem_map.2 ⟨x, List.mem_of_getElem? hx, hd⟩)
theorem drop_at {l : List Ent} {i : Nat} {e : Ent} (h : l[i]? = some e) : l.drop i = e :: l.drop (i + 1) := by
  have hi := (List.getElem?_eq_some_iff.1 h).1
  rw [List.drop_eq_getElem_cons hi]
  rw [show l[i] = e from Option.some.inj ((List.getElem?_eq_getElem hi).symm.trans h)]

theorem once_plain {s x : St} {f k no : Int} {d : List Nat} (hv : chkS s = 0) (h : putS s f k d = (x, no, 0)) :
    putS x f k d = (x, no, 0) ∧ 1 ≤ no ∧ no ≤ 100000 ∧ ∃ z r, fetchS x f no = (z :: r, 0) ∧ z.dig = entD k d ∧ (z.gone = true ∨ z.dig = entD z.kind z.data) := by
  have hx := put_valid hv h
  have h' := h
  unfold putS at h
  split at h
  · rename_i ho
    split at h
    · rename_i hk
      split at h
      · rename_i hi
        simp only [Prod.mk.injEq] at h
        obtain ⟨rfl, h2, _⟩ := h
        have hlen : (ents s f).length ≤ 65536 := by
          rcases ents_fine hv f with h0 | h0
          · rw [h0]; simp
          · exact ((fineB_iff _).1 h0).2.2.2
        refine ⟨h', by omega, by omega, ?_⟩
        obtain ⟨e, he, hd⟩ := idxE_lt hi
        refine ⟨e, (ents s f).drop (idxE (entD k d) (ents s f) + 1), ?_, hd, ?_⟩
        · unfold fetchS
          rw [if_pos ho, if_pos (by omega), show (no - 1).toNat = idxE (entD k d) (ents s f) by omega, drop_at he]
        · rcases ents_fine hv f with h0 | h0
          · rw [h0] at he; simp at he
          · exact entB_of (((fineB_iff _).1 h0).1 e (List.mem_of_getElem? he))
      · rename_i hi
        split at h
        · cases h
        · rename_i hl
          simp only [Prod.mk.injEq] at h
          obtain ⟨rfl, h2, _⟩ := h
          have ho2 : openE (replS s f (putE (ents s f) k d)) f = 0 := by
            rw [openE_iff]
            exact ⟨hx, ((openE_iff _ _).1 ho).2⟩
          have hen : ents (replS s f (putE (ents s f) k d)) f = putE (ents s f) k d := ents_repl_same _ _ _
          have hix : idxE (entD k d) (putE (ents s f) k d) = (ents s f).length := idx_snoc (e := ⟨k, entD k d, d, false⟩) hi
          have hln : (putE (ents s f) k d).length = (ents s f).length + 1 := by simp [putE]
          have hlen : (ents s f).length ≤ 65536 := by
            rcases ents_fine hv f with h0 | h0
            · rw [h0]; simp
            · exact ((fineB_iff _).1 h0).2.2.2
          refine ⟨?_, by omega, by omega, ⟨k, entD k d, d, false⟩, [], ?_, rfl, .inr rfl⟩
          · unfold putS
            rw [if_pos ho2, if_pos hk, hen, hix, if_pos (by omega), h2]
          · unfold fetchS
            rw [if_pos ho2, hen, hln, if_pos (by omega), show (no - 1).toNat = (ents s f).length by omega]
            simp [putE]
    · cases h
  · rename_i ho
    simp only [Prod.mk.injEq] at h
    exact absurd h.2.2 ho

theorem once_err {s x : St} {f k no q : Int} {d : List Nat} (hv : chkS s = 0) (h : putS s f k d = (x, no, q)) (hq : q ≠ 0) :
    no = 0 ∧ ((q = 1 ∧ (f < 0 ∨ 16 ≤ f ∨ k < 1 ∨ 7 < k)) ∨ (q = 2 ∧ 0 ≤ f ∧ f < 16 ∧ 1 ≤ k ∧ k ≤ 7)) := by
  unfold putS at h
  rw [openE_valid hv] at h
  cases hf : folderB f with
  | false =>
    rw [hf] at h
    simp at h
    have := of_decide_eq_false hf
    obtain ⟨_, h1, h2⟩ := h
    exact ⟨h1.symm, .inl ⟨h2.symm, by omega⟩⟩
  | true =>
    rw [hf] at h
    have hf' := of_decide_eq_true hf
    simp only [if_true] at h
    cases hk : kindB k with
    | false =>
      rw [hk] at h
      simp at h
      have := of_decide_eq_false hk
      obtain ⟨_, h1, h2⟩ := h
      exact ⟨h1.symm, .inl ⟨h2.symm, by omega⟩⟩
    | true =>
      rw [hk] at h
      have hk' := of_decide_eq_true hk
      simp only [if_true] at h
      split at h
      · simp only [Prod.mk.injEq] at h; omega
      · split at h
        · simp only [Prod.mk.injEq] at h
          exact ⟨by omega, .inr ⟨by omega, by omega⟩⟩
        · simp only [Prod.mk.injEq] at h; omega
end Go.Sto
namespace Go.Proofs.YtgfmdjagamjpbaaDoor
open Go.ChangeShapes Go.WideShapes Go.ChangeAt Go.RowKit Go.Joins Go.Mem
open Go.Sto (Stp)

theorem cellsStp : Tryd.prog.cellsOf 58 = 4 := by kernel_rfl
theorem cellsSl : Tryd.prog.cellsOf 46 = 1 := by kernel_rfl
section
variable {H : Type} {enc : TypeId × Value → H} {W : World}
theorem open_u8 {fuel : Nat} {cs : List Value} {x : DataW H × List MemPlace} (h : DataW.trod enc Tryd.prog W 0 (fun _ => true) true fuel 5 cs = some x) : ∃ y : Nat, cs = [.int .u8 (y : Int)] ∧ y < 256 := by
  obtain ⟨a, e0, _, w0⟩ := DataW.trod_int Tryd.underlying5 h
  have hb : 0 ≤ a ∧ a < 256 := by
    have h2 : IntKind.u8.min ≤ a ∧ a ≤ IntKind.u8.max := by simpa [Lit.wf] using w0
    have e1 : IntKind.u8.min = 0 := rfl
    have e2 : IntKind.u8.max = 255 := rfl
    omega
  exact ⟨a.toNat, by rw [e0, Int.toNat_of_nonneg hb.1], by omega⟩
theorem open_bytes' {fuel : Nat} {cs : List Value} {x : DataW H × List MemPlace} (h : DataW.trod enc Tryd.prog W 0 (fun _ => true) true fuel 46 cs = some x) : ∃ a n c l, cs = [.slice a n c] ∧ BW W a n c l := by
  rcases Deep.open_slice Tryd.underlying46 h with ⟨rfl, _⟩ | ⟨ad, len, cap, m, k, D, Pl, rfl, hb, hl, hm, hmm, _, hx⟩
  · exact ⟨none, 0, 0, [], rfl, .inl ⟨rfl, Nat.le_refl _, by decide, fun _ => ⟨rfl, rfl⟩, (fun ad e => by cases e), (fun x hx => by cases hx)⟩⟩
  · simp at hmm
    subst hmm
    rw [cellsU8] at hx
    by_cases h0 : m = 0
    · subst h0
      obtain rfl : len = 0 := by omega
      exact ⟨some ad, 0, 0, [], rfl, .inr ⟨rfl, rfl, rfl, ad, rfl⟩⟩
    · have each : ∀ i, i < m → ∃ y : Nat, W.cell? (ad.add i) = some (.int .u8 (y : Int)) ∧ y < 256 := by
        intro i hi
        obtain ⟨cs', h1, h2⟩ := hx i hi
        rw [Nat.mul_one] at h1
        obtain ⟨_, hlen, hcell⟩ := World.cells?_some h1
        obtain ⟨y, rfl, hy⟩ := open_u8 h2
        have e0 := hcell 0 (by omega)
        have z : ∀ q : Addr, q.add 0 = q := fun q => by unfold Addr.add; cases q; simp
        rw [z] at e0
        exact ⟨y, by simpa using e0, hy⟩
      obtain ⟨T, hT⟩ := Deep.choose_lt each
      obtain ⟨b, off, spot⟩ := ad
      have c0 := (hT 0 (by omega)).1
      have hspot : spot = none := by simpa [Addr.add] using World.cell?_spot c0
      subst hspot
      have hbl : b < W.heap.size := World.block_lt_of_cell? W _ (by simpa [Addr.add] using c0)
      refine ⟨_, len, m, (List.range len).map T, rfl, .inl ⟨by simp, hl, by unfold maxLen at hm; omega, (fun e => by cases e), fun ad e => ?_, fun y hy => ?_⟩⟩
      · cases e
        refine ⟨b, off, rfl, hbl, fun i y hy => ?_⟩
        have hi : i < len := by have := (List.getElem?_eq_some_iff.1 hy).1; simpa using this
        have hti : y = T i := by rw [List.getElem?_map, List.getElem?_range hi] at hy; simpa using hy.symm
        subst hti
        have g0 := (hT i (by omega)).1
        rwa [Addr.add_lit] at g0
      · obtain ⟨i, hi, rfl⟩ := List.mem_map.1 hy
        exact (hT i (by have := List.mem_range.1 hi; omega)).2

theorem open_step {fuel : Nat} {cs : List Value} {x : DataW H × List MemPlace} (h : DataW.trod enc Tryd.prog W 0 (fun _ => true) true fuel 58 cs = some x) : ∃ s : Stp, TV W s cs ∧ cs.length = 4 := by
  obtain ⟨xs, n, _, rfl, hl, hlen, hf⟩ := DataW.trod_struct Tryd.underlying58 h
  rw [cellsStp] at hl
  match xs, hlen with
  | [y0, y1, y2, y3], _ =>
    have h0 : DataW.trod enc Tryd.prog W 0 (fun _ => true) true n 3 ((cs.drop 0).take (Tryd.prog.cellsOf 3)) = some y0 := hf 0 _ rfl
    rw [cellsInt] at h0
    have h1 : DataW.trod enc Tryd.prog W 0 (fun _ => true) true n 3 ((cs.drop 1).take (Tryd.prog.cellsOf 3)) = some y1 := hf 1 _ rfl
    rw [cellsInt] at h1
    have h2 : DataW.trod enc Tryd.prog W 0 (fun _ => true) true n 3 ((cs.drop 2).take (Tryd.prog.cellsOf 3)) = some y2 := hf 2 _ rfl
    rw [cellsInt] at h2
    have h3 : DataW.trod enc Tryd.prog W 0 (fun _ => true) true n 46 ((cs.drop 3).take (Tryd.prog.cellsOf 46)) = some y3 := hf 3 _ rfl
    rw [cellsSl] at h3
    obtain ⟨fo, e0, i0⟩ := open_int1 h0
    obtain ⟨ki, e1, i1⟩ := open_int1 h1
    obtain ⟨no, e2, i2⟩ := open_int1 h2
    obtain ⟨a, dn, dc, data, e3, hB⟩ := open_bytes' h3
    refine ⟨⟨fo, ki, no, data⟩, ⟨i0, i1, i2, a, dn, dc, ?_, hB⟩, hl⟩
    have q4 : cs.drop 4 = [] := List.drop_eq_nil_of_le (by omega)
    have q3 : cs.drop 3 = [.slice a dn dc] := by rw [drop_parts cs 3 1 4 rfl, e3, q4]; rfl
    have q2 : cs.drop 2 = [.int .i64 no] ++ [.slice a dn dc] := by rw [drop_parts cs 2 1 3 rfl, e2, q3]
    have q1 : cs.drop 1 = [.int .i64 ki] ++ ([.int .i64 no] ++ [.slice a dn dc]) := by rw [drop_parts cs 1 1 2 rfl, e1, q2]
    have q0 : cs.drop 0 = [.int .i64 fo] ++ ([.int .i64 ki] ++ ([.int .i64 no] ++ [.slice a dn dc])) := by rw [drop_parts cs 0 1 1 rfl, e0, q1]
    exact q0

theorem open_steps {a : Option Addr} {n c : Nat} {d : DataW H} {p : List MemPlace} (h : DataW.Trod enc Tryd.prog W 0 (fun _ => true) true 22 (.slice a n c) d p) : ∃ l, SS W a n c l := by
  obtain ⟨fuel, hf⟩ := h
  have hf' : DataW.trod enc Tryd.prog W 0 (fun _ => true) true fuel 22 [.slice a n c] = some (d, p) := by simpa [Value.cells] using hf
  rcases Deep.open_slice Tryd.underlying22 hf' with ⟨hcs, _⟩ | ⟨ad, len, cap, m, k, D, Pl, hcs, hb, hl, hm, hmm, _, hx⟩
  · simp at hcs
    obtain ⟨rfl, rfl, rfl⟩ := hcs
    exact ⟨[], RS.nil0 _ _ _⟩
  · simp at hcs
    obtain ⟨rfl, rfl, rfl⟩ := hcs
    simp at hmm
    subst hmm
    rw [cellsStp] at hx
    have each : ∀ i, i < m → ∃ q : Stp × List Value, (∀ j u, q.2[j]? = some u → W.cell? ((ad.add (i * 4)).add j) = some u) ∧ TV W q.1 q.2 ∧ q.2.length = 4 := by
      intro i hi
      obtain ⟨cs', h1, h2⟩ := hx i hi
      obtain ⟨_, hlen, hcell⟩ := World.cells?_some h1
      obtain ⟨s, hs, hl4⟩ := open_step h2
      refine ⟨(s, cs'), fun j u hu => ?_, hs, hl4⟩
      have hj := (List.getElem?_eq_some_iff.1 hu).1
      have := hcell j (by rw [← hlen]; exact hj)
      rw [this]
      simpa using hu
    have : Inhabited (Stp × List Value) := ⟨(⟨0, 0, 0, []⟩, [])⟩
    obtain ⟨T, hT⟩ := Deep.choose_lt each
    have hrs : ∀ r ∈ (List.range n).map (fun i => (T i).2), r.length = 4 := fun r hr => by
      obtain ⟨i, hi, rfl⟩ := List.mem_map.1 hr
      exact (hT i (by have := List.mem_range.1 hi; omega)).2.2
    refine ⟨(List.range n).map (fun i => (T i).1), by simp, fun _ _ _ => trivial, (List.range n).map (fun i => (T i).2), ⟨?_, hl, hm, (fun e => by cases e), fun hn => ?_⟩, ⟨by simp, hrs, fun i e r he hr => ?_⟩⟩
    · rw [flat_len hrs]; simp
    · obtain ⟨b, off, spot⟩ := ad
      have hrow : ∀ i, i < n → ∀ j, j < 4 → ∃ u, (T i).2[j]? = some u := fun i hi j hj => ⟨_, List.getElem?_eq_getElem (by rw [(hT i (by omega)).2.2]; exact hj)⟩
      obtain ⟨u0, hu0⟩ := hrow 0 hn 0 (by omega)
      have c0 := (hT 0 (by omega)).1 0 u0 hu0
      have hspot : spot = none := by simpa [Addr.add] using World.cell?_spot c0
      subst hspot
      have hbl : b < W.heap.size := World.block_lt_of_cell? W _ (by simpa [Addr.add] using c0)
      refine ⟨b, off, rfl, hbl, fun j u hj => ?_⟩
      have hjl := (List.getElem?_eq_some_iff.1 hj).1
      rw [flat_len hrs] at hjl
      simp only [List.length_map, List.length_range] at hjl
      have hi : j / 4 < n := by omega
      obtain ⟨v, hv⟩ := hrow (j / 4) hi (j % 4) (by omega)
      have hg := flat_get (i := j / 4) (j := j % 4) hrs (r := (T (j / 4)).2) (by simp [hi]) hv
      rw [show j / 4 * 4 + j % 4 = j by omega, hj] at hg
      cases hg
      have := (hT (j / 4) (by omega)).1 _ _ hv
      rw [Addr.add_lit, Addr.add_lit] at this
      rw [show off + j = off + j / 4 * 4 + j % 4 by omega]
      exact this
    · have hi : i < n := by have := (List.getElem?_eq_some_iff.1 he).1; simpa using this
      rw [List.getElem?_map, List.getElem?_range hi] at he hr
      simp at he hr
      subst he hr
      exact (hT i (by omega)).2.1
end
end Go.Proofs.YtgfmdjagamjpbaaDoor
namespace Go.Proofs.YtgfmdjagamjpbaaDoor
open Go.RowKit Go.Mem
open Go.Sto (Ent Lg St Stp)

/-- what the last region keeps: the entry's box. -/
def OncW (w : World) (g : Nat) (z : Ent) (ea : Option Addr) (en ec : Nat) (wz : World) : Prop := Blk wz g 48 (entC z ea en ec) ∧ BW wz ea en ec z.data ∧ Below w.heap.size w wz
section
variable {w wz wq : World} {g en ec : Nat} {z : Ent} {ea : Option Addr} {b : Bool}
theorem OncW.mk' (hd : z.dig.length = 32) (hg : z.gone = b) (h : OncW w g z ea en ec wz) : wz.cell? ⟨g, 0, none⟩ = some (.int .i64 z.kind) ∧ wz.rangeAt g 1 (bv z.dig) ∧ wz.cell? ⟨g, 33, none⟩ = some (.slice ea en ec) ∧ wz.cell? ⟨g, 34, none⟩ = some (.bool b) ∧ OncW w g z ea en ec wz := by
  have e := EntB.of h.1 hd
  exact ⟨e.kind, e.dig, e.data, by rw [← hg]; exact e.gone, h⟩
theorem OncW.next (hd : z.dig.length = 32) (hg : z.gone = b) (h : wz.cell? ⟨g, 0, none⟩ = some (.int .i64 z.kind) ∧ wz.rangeAt g 1 (bv z.dig) ∧ wz.cell? ⟨g, 33, none⟩ = some (.slice ea en ec) ∧ wz.cell? ⟨g, 34, none⟩ = some (.bool b) ∧ OncW w g z ea en ec wz) (hb : Below wz.heap.size wz wq) :
    wq.cell? ⟨g, 0, none⟩ = some (.int .i64 z.kind) ∧ wq.rangeAt g 1 (bv z.dig) ∧ wq.cell? ⟨g, 33, none⟩ = some (.slice ea en ec) ∧ wq.cell? ⟨g, 34, none⟩ = some (.bool b) ∧ OncW w g z ea en ec wq :=
  OncW.mk' hd hg ⟨h.2.2.2.2.1.below hb h.2.2.2.2.1.lt, h.2.2.2.2.2.1.below hb, h.2.2.2.2.2.2.trans (hb.mono h.2.2.2.2.2.2.size)⟩
theorem OncW.drew (h : OncW w g z ea en ec wz) : OncW w g z ea en ec wz.drew := ⟨h.1, h.2.1.below (Below.refl _ wz).drew, h.2.2.drew⟩
end

set_option maxRecDepth 100000 in
set_option maxHeartbeats 8000000 in
theorem once_walk (a : Option Addr) (n c : Nat) (l : List Stp) (fo kind : Int) (hf : I64 fo) (hk : I64 kind) (da : Option Addr) (dn dc : Nat) (data : List Nat) (w : World) (HT : Tabs w) (HS : SS w a n c l) (HD : BW w da dn dc data) :
    Calls Tryd.prog 4 #[.slice a n c, .int .i64 fo, .int .i64 kind, .slice da dn dc] w (RetBo true w) := by
  have HT' := Lib.hid HT; have HS' := Lib.hid HS; have HD' := Lib.hid HD
  clear HT HS HD
  obtain ⟨V, hV⟩ : ∃ V, Hid (Sto.playS l = V) := ⟨_, rfl⟩
  have hpl := Lib.hid (fun W hT hS => play_any a n c l W hT hS)
  rw [hV.out] at hpl
  obtain ⟨s, ok⟩ := V
  obtain ⟨X, hX⟩ : ∃ X, X = RetBo true w := ⟨_, rfl⟩
  have hfin : Hid (∀ W, Below w.heap.size w W → X (.returned (.bool true)) W) := fun W h => by rw [hX]; exact ⟨rfl, h⟩
  rw [← hX]
  clear hX
  go_enter Tryd.func4, Tryd.ntmps4
  go_wp2_with fail
  refine (sane_any _ HT'.out).mono ?_
  rintro e w1 ⟨rfl, hb1⟩
  have hbw := Lib.hid hb1
  clear hb1
  go_wp2_with fail
  refine (hpl.out _ (HT'.out.below hbw.out) (HS'.out.below hbw.out)).mono ?_
  rintro e w2 ⟨a2, c2, rfl, hS, hb⟩
  replace hbw := Lib.hid (hbw.out.trans (hb.mono hbw.out.size))
  clear hb
  have hS9 := Lib.hid hS
  clear hS hpl
  obtain ⟨v2, hP⟩ : ∃ V, Hid (PutR 26 (w2.alloc (.cells ([.int .i64 0, .int .i64 0, .slice none 0 0] : List Value).toArray 26)) V w2.heap.size 26 (stC s a2 s.logs.length c2)) := put_row (Blk.new w2 26 ([.int .i64 0, .int .i64 0, .slice none 0 0])) rfl (sizeSto) (stC_ones _ _ _ _)
  have hst := below_grown ((Below.refl _ w2).alloc (Nat.le_refl _) _) hP.out.grown (by simp) (Nat.le_refl _)
  replace hS9 := Lib.hid (hS9.out.below hst)
  replace hbw := Lib.hid (hbw.out.trans (hst.mono hbw.out.size))
  clear hst
  have hB9 := Lib.hid hP.out.blk
  cases ok with
  | false =>
    go_wp2_with (first
      | (refine wpList_store_mid (by rfl) 26 (.tmp 9) (.tmp 25) (by rfl) w2.heap.size 0 (stC s a2 s.logs.length c2).toArray (by rfl) (by rfl) hP.out.there hP.out.info (by simpa using hP.out.one) ?_
         generalize hWq : World.setCells _ _ _ _ = Wa
         obtain rfl : v2 = Wa := by rw [← hWq]; exact hP.out.eq
         clear hWq))
    exact hfin.out _ hbw.out
  | true =>
    by_cases hdn : 100 < dn
    · have hdn' : (100 : Int) < (dn : Int) := by omega
      go_wp2_with (first
        | (refine wpList_store_mid (by rfl) 26 (.tmp 9) (.tmp 25) (by rfl) w2.heap.size 0 (stC s a2 s.logs.length c2).toArray (by rfl) (by rfl) hP.out.there hP.out.info (by simpa using hP.out.one) ?_
           generalize hWq : World.setCells _ _ _ _ = Wa
           obtain rfl : v2 = Wa := by rw [← hWq]; exact hP.out.eq
           clear hWq))
      exact hfin.out _ hbw.out
    · have hdn' : ¬ (100 : Int) < (dn : Int) := by omega
      have hv := Lib.hid (Sto.play_valid hV.out)
      obtain ⟨V, hPq⟩ : ∃ V, Hid (Sto.putS s fo kind data = V) := ⟨_, rfl⟩
      have hput := Lib.hid (fun W hT hS hD => Put_any a2 s.logs.length c2 s fo kind hf hk da dn dc data W hT hS hD (by omega))
      rw [hPq.out] at hput
      obtain ⟨x, no, q⟩ := V
      have l0 := hB9.out.at_ (i := 0) rfl
      have l1 := hB9.out.at_ (i := 1) rfl
      have l2 := hB9.out.at_ (i := 2) rfl
      go_wp2_with (first
        | (refine wpList_store_mid (by rfl) 26 (.tmp 9) (.tmp 25) (by rfl) w2.heap.size 0 (stC s a2 s.logs.length c2).toArray (by rfl) (by rfl) hP.out.there hP.out.info (by simpa using hP.out.one) ?_
           generalize hWq : World.setCells _ _ _ _ = Wa
           obtain rfl : v2 = Wa := by rw [← hWq]; exact hP.out.eq
           clear hWq))
      clear l0 l1 l2 hP
      refine (hput.out _ (HT'.out.below hbw.out) hS9.out (HD'.out.below hbw.out)).mono ?_
      rintro e w3 ⟨a3, c3, rfl, hS, hb⟩
      clear hB9 hS9 hput
      replace hbw := Lib.hid (hbw.out.trans (hb.mono hbw.out.size))
      clear hb
      have hS11 : Hid (SV (fun _ => True) w3 a3 x.logs.length c3 x) := hS.imp fun _ _ _ => trivial
      clear hS
      obtain ⟨v3, hP⟩ : ∃ V, Hid (PutR 26 (w3.alloc (.cells ([.int .i64 0, .int .i64 0, .slice none 0 0] : List Value).toArray 26)) V w3.heap.size 26 (stC x a3 x.logs.length c3)) := put_row (Blk.new w3 26 ([.int .i64 0, .int .i64 0, .slice none 0 0])) rfl (sizeSto) (stC_ones _ _ _ _)
      have hst := below_grown ((Below.refl _ w3).alloc (Nat.le_refl _) _) hP.out.grown (by simp) (Nat.le_refl _)
      replace hS11 := Lib.hid (hS11.out.below hst)
      replace hbw := Lib.hid (hbw.out.trans (hst.mono hbw.out.size))
      clear hst
      have hB11 := Lib.hid hP.out.blk
      by_cases hq : q = 0
      · subst hq
        obtain ⟨hp2, hn1, hn2, z, r, hfe, hzd, hzg⟩ := Sto.once_plain hv.out hPq.out
        have hput := Lib.hid (fun W hT hS hD => Put_any a3 x.logs.length c3 x fo kind hf hk da dn dc data W hT hS hD (by omega))
        rw [hp2] at hput
        have hfet := Lib.hid (fun W hT hS => Fetch_any a3 x.logs.length c3 x fo no ⟨by omega, by omega⟩ W hT hS)
        rw [hfe] at hfet
        have hzd' := Lib.hid hzd; have hzg' := Lib.hid hzg
        clear hp2 hfe hzd hzg hn1 hn2 hPq hv hV
        obtain ⟨m, hm⟩ : ∃ m, Hid ((z :: r).length = m) := ⟨_, rfl⟩
        have hm0 : 0 < m := by rw [← hm.out]; simp
        have hm1 : ((m : Int) == 0) = false := by simpa using (by omega : ¬ (m : Int) = 0)
        have l0 := hB11.out.at_ (i := 0) rfl
        have l1 := hB11.out.at_ (i := 1) rfl
        have l2 := hB11.out.at_ (i := 2) rfl
        go_wp2_with (first
          | (refine wpList_store_mid (by rfl) 26 (.tmp 11) (.tmp 40) (by rfl) w3.heap.size 0 (stC x a3 x.logs.length c3).toArray (by rfl) (by rfl) hP.out.there hP.out.info (by simpa using hP.out.one) ?_
             generalize hWq : World.setCells _ _ _ _ = Wa
             obtain rfl : v3 = Wa := by rw [← hWq]; exact hP.out.eq
             clear hWq))
        clear l0 l1 l2 hP
        refine (hput.out _ (HT'.out.below hbw.out) hS11.out (HD'.out.below hbw.out)).mono ?_
        rintro e w4 ⟨a4, c4, rfl, hS, hb⟩
        clear hput
        replace hS11 := Lib.hid (hS11.out.below hb)
        replace hB11 := Lib.hid (hB11.out.below hb hB11.out.lt)
        replace hbw := Lib.hid (hbw.out.trans (hb.mono hbw.out.size))
        clear hb
        have hS14 : Hid (SV (fun _ => True) w4 a4 x.logs.length c4 x) := hS.imp fun _ _ _ => trivial
        clear hS
        obtain ⟨v4, hP⟩ : ∃ V, Hid (PutR 26 (w4.alloc (.cells ([.int .i64 0, .int .i64 0, .slice none 0 0] : List Value).toArray 26)) V w4.heap.size 26 (stC x a4 x.logs.length c4)) := put_row (Blk.new w4 26 ([.int .i64 0, .int .i64 0, .slice none 0 0])) rfl (sizeSto) (stC_ones _ _ _ _)
        have hst := below_grown ((Below.refl _ w4).alloc (Nat.le_refl _) _) hP.out.grown (by simp) (Nat.le_refl _)
        replace hS11 := Lib.hid (hS11.out.below hst)
        replace hB11 := Lib.hid (hB11.out.below hst hB11.out.lt)
        replace hS14 := Lib.hid (hS14.out.below hst)
        replace hbw := Lib.hid (hbw.out.trans (hst.mono hbw.out.size))
        clear hst
        have hB14 := Lib.hid hP.out.blk
        have l0 := hB11.out.at_ (i := 0) rfl
        have l1 := hB11.out.at_ (i := 1) rfl
        have l2 := hB11.out.at_ (i := 2) rfl
        go_wp2_with (first
          | (refine wpList_store_mid (by rfl) 26 (.tmp 14) (.tmp 72) (by rfl) w4.heap.size 0 (stC x a4 x.logs.length c4).toArray (by rfl) (by rfl) hP.out.there hP.out.info (by simpa using hP.out.one) ?_
             generalize hWq : World.setCells _ _ _ _ = Wa
             obtain rfl : v4 = Wa := by rw [← hWq]; exact hP.out.eq
             clear hWq))
        clear l0 l1 l2 hP
        refine (hfet.out _ (HT'.out.below hbw.out) hS11.out).mono ?_
        rintro e w5 ⟨a5, c5, rfl, hE, hb⟩
        clear hfet
        replace hS11 := Lib.hid (hS11.out.below hb)
        replace hB11 := Lib.hid (hB11.out.below hb hB11.out.lt)
        replace hS14 := Lib.hid (hS14.out.below hb)
        replace hB14 := Lib.hid (hB14.out.below hb hB14.out.lt)
        replace hbw := Lib.hid (hbw.out.trans (hb.mono hbw.out.size))
        clear hb
        rw [hm.out] at hE ⊢
        have hE17 : Hid (ES (fun _ => True) w5 a5 m c5 (z :: r)) := hE.imp fun _ _ _ => trivial
        clear hE
        have l0 := hB11.out.at_ (i := 0) rfl
        have l1 := hB11.out.at_ (i := 1) rfl
        have l2 := hB11.out.at_ (i := 2) rfl
        have k0 := hB14.out.at_ (i := 0) rfl
        have k1 := hB14.out.at_ (i := 1) rfl
        have k2 := hB14.out.at_ (i := 2) rfl
        go_wp2_with fail
        clear l0 l1 l2 k0 k1 k2
        refine (same_any (fun _ => True) (fun _ => True) a3 a4 x.logs.length c3 c4 x _ hS11.out hS14.out).mono ?_
        rintro e w6 ⟨rfl, hb⟩
        replace hS11 := Lib.hid (hS11.out.below hb)
        replace hB11 := Lib.hid (hB11.out.below hb hB11.out.lt)
        replace hS14 := Lib.hid (hS14.out.below hb)
        replace hB14 := Lib.hid (hB14.out.below hb hB14.out.lt)
        replace hE17 := Lib.hid (hE17.out.below hb)
        replace hbw := Lib.hid (hbw.out.trans (hb.mono hbw.out.size))
        clear hb hS11 hS14 hB11 hB14
        obtain ⟨b0, o0, r0, rfl, _, _, ⟨hoz, ea, en, ec, er, hbk⟩, hrl, hrg⟩ := hE17.out.rs.get (k := 0) (e := z) rfl
        simp only [Nat.zero_mul, Nat.add_zero] at hrg
        have hrg' := Lib.hid hrg
        have hri : Hid ((Tryd.prog.info? 48).map (·.size) = some r0.length) := by show _ = _; rw [hrl]; exact sizeE
        have hBz := Lib.hid hbk.bs
        have er' := Lib.hid er
        clear hE17 hrg hbk er
        obtain ⟨v6, hP⟩ : ∃ V, Hid (PutR 48 (w6.alloc (.cells (entC ⟨0, List.replicate 32 0, [], false⟩ none 0 0 : List Value).toArray 48)) V w6.heap.size 48 (r0)) := put_row (Blk.new w6 48 (entC ⟨0, List.replicate 32 0, [], false⟩ none 0 0)) (by rw [hrl]; rfl) (by rw [hrl]; exact sizeE) (by rw [er'.out]; exact entC_one _ _ _ _)
        have hst := below_grown ((Below.refl _ w6).alloc (Nat.le_refl _) _) hP.out.grown (by simp) (Nat.le_refl _)
        replace hBz := Lib.hid (hBz.out.below hst)
        replace hbw := Lib.hid (hbw.out.trans (hst.mono hbw.out.size))
        clear hst
        have hB19 := Lib.hid hP.out.blk
        have hm2 : (0 : Int) < (m : Int) := by omega
        go_wp2_with (first
          | (refine wpList_load_mid (by rfl) 48 (.tmp 105) (by rfl) b0 o0 (by rfl) r0 _ hrg'.out Tryd.underlying48 (by rfl) hri.out ?_)
          | (refine wpList_store_mid (by rfl) 48 (.tmp 19) (.tmp 106) (by rfl) w6.heap.size 0 (r0).toArray (by rfl) (by rfl) hP.out.there hP.out.info (by simpa using hP.out.one) ?_
             generalize hWq : World.setCells _ _ _ _ = Wa
             obtain rfl : v6 = Wa := by rw [← hWq]; exact hP.out.eq
             clear hWq))
        rw [er'.out] at hB19
        have hOn : Hid (OncW w w6.heap.size z ea en ec v6) := ⟨hB19.out, hBz.out, hbw.out⟩
        have hoz' := Lib.hid hoz
        have hdg : Hid (∀ W, Tabs W → BW W da dn dc data → Calls Tryd.prog 18 #[.int .i64 kind, .slice da dn dc] W (DigPost z.dig W)) := fun W hT hB => by
          have h := digest_any kind hk da dn dc data W hT hB (by omega)
          rwa [show entryD kind data = z.dig from hzd'.out.symm] at h
        have hen : en ≤ 1000000 := by have := hBz.out.len; have := hoz.data; omega
        have hdi : Hid ((Tryd.prog.info? 35).map (·.size) = some (bv z.dig).length) := by show _ = _; rw [bv_length, hoz.dig]; exact size35
        have heq : ∀ W, (Op.equalIn 10000 35 (.agg (bv z.dig).toArray) (.agg (bv z.dig).toArray)).run Tryd.prog W = .ok true W := fun W => by
          have := eq_dig (x := z.dig) (y := z.dig) ⟨hoz.dig, hoz.lt⟩ ⟨hoz.dig, hoz.lt⟩ W
          rwa [decide_eq_true rfl] at this
        have hD6 := Lib.hid (HD'.out.below hbw.out)
        clear hP hB19 hBz hrg' hri hrl hoz
        clear er'
        generalize w6.heap.size = g at *
        cases hgq : z.gone with
        | true =>
          have hgz := Lib.hid hgq
          refine wp_region_held_drew (S := fun wz => wz.cell? ⟨g, 0, none⟩ = some (.int .i64 z.kind) ∧ wz.rangeAt g 1 (bv z.dig) ∧ wz.cell? ⟨g, 33, none⟩ = some (.slice ea en ec) ∧ wz.cell? ⟨g, 34, none⟩ = some (.bool true) ∧ OncW w g z ea en ec wz) (by kernel_rfl) (OncW.mk' hoz'.out.dig hgz.out hOn.out.drew) (fun hHeld => ?_)
          refine wpAnyH_take (i := 0) (oi := { dst := some 107, op := Op.fieldAddr 48 (Operand.tmp 19) 1, type := 0, pos := "law.go:171", after := #[], guard := none }) (v := ?_) rfl (by kernel_rfl) (by kernel_rfl) (by kernel_rfl) (fun _ _ _ h => h) (Or.inl ⟨by rfl, ?_⟩) hHeld ?_
          rotate_left
          · intro wz hSw
            (try dsimp only at hSw)
            go_simp
            all_goals (with_reducible rfl)
          try simp only [Act.put, List.setIfInBounds_toArray, List.set_cons_zero, List.set_cons_succ]
          refine wpAnyH_take (i := 1) (oi := { dst := some 108, op := Op.load 35 (Operand.tmp 107), type := 35, pos := "law.go:171", after := #[{ on := 0, ground := Ground.data }], guard := none }) rfl (by kernel_rfl) (by kernel_rfl) (by kernel_rfl) (fun _ _ _ h => h) (yieldsIf_load_mid (by rfl) _ _ rfl g 1 rfl (bv z.dig) _ (fun _ h => h.2.1) Tryd.underlying35 rfl hdi.out) hHeld ?_
          try simp only [Act.put, List.setIfInBounds_toArray, List.set_cons_zero, List.set_cons_succ]
          refine wpAnyH_take (i := 2) (oi := { dst := some 109, op := Op.move (Operand.tmp 2), type := 3, pos := "law.go:171", after := #[], guard := none }) (v := ?_) rfl (by kernel_rfl) (by kernel_rfl) (by kernel_rfl) (fun _ _ _ h => h) (Or.inl ⟨by rfl, ?_⟩) hHeld ?_
          rotate_left
          · intro wz hSw
            (try dsimp only at hSw)
            go_simp
            all_goals (with_reducible rfl)
          try simp only [Act.put, List.setIfInBounds_toArray, List.set_cons_zero, List.set_cons_succ]
          refine wpAnyH_take (i := 3) (oi := { dst := some 110, op := Op.move (Operand.tmp 3), type := 46, pos := "law.go:171", after := #[], guard := none }) (v := ?_) rfl (by kernel_rfl) (by kernel_rfl) (by kernel_rfl) (fun _ _ _ h => h) (Or.inl ⟨by rfl, ?_⟩) hHeld ?_
          rotate_left
          · intro wz hSw
            (try dsimp only at hSw)
            go_simp
            all_goals (with_reducible rfl)
          try simp only [Act.put, List.setIfInBounds_toArray, List.set_cons_zero, List.set_cons_succ]
          refine wpAnyH_ready (rs := [4]) (by kernel_rfl) (by simp) ?_
          refine AllReadyH.cons (o := { dst := some 111, op := Op.call { callee := Callee.value (Operand.func 18), args := #[Operand.tmp 109, Operand.tmp 110], argTypes := #[3, 46] }, type := 35, pos := "law.go:171", after := #[{ on := 2, ground := Ground.data }, { on := 3, ground := Ground.data }], guard := none }) rfl (fun K hK => ?_) AllReadyH.nil
          rw [if_pos (by rfl)]
          show Oper.wp _ _ _ _ K _
          go_simp
          go_at_call 18
          refine (hdg.out _ (HT'.out.below hHeld.2.2.2.2.2.2) (HD'.out.below hHeld.2.2.2.2.2.2)).mono ?_
          rintro e w8 ⟨rfl, hb⟩
          refine hK.out _ _ (OncW.next hoz'.out.dig hgz.out hHeld hb) (fun hHeld => ?_)
          clear hK K
          try simp only [Act.put, List.setIfInBounds_toArray, List.set_cons_zero, List.set_cons_succ]
          refine wpAnyH_take (i := 5) (oi := { dst := some 112, op := Op.binOp BinOp.eql 35 (Operand.tmp 108) (Operand.tmp 111) 35, type := 4, pos := "law.go:171", after := #[{ on := 1, ground := Ground.data }, { on := 4, ground := Ground.data }], guard := none }) (v := ?_) rfl (by kernel_rfl) (by kernel_rfl) (by kernel_rfl) (fun _ _ _ h => h) (Or.inl ⟨by rfl, ?_⟩) hHeld ?_
          rotate_left
          · intro wz hSw
            (try dsimp only at hSw)
            go_simp
            all_goals (with_reducible rfl)
          try simp only [Act.put, List.setIfInBounds_toArray, List.set_cons_zero, List.set_cons_succ]
          refine wpAnyH_take (i := 6) (oi := { dst := some 113, op := Op.move (Operand.tmp 112), type := 4, pos := "law.go:171", after := #[{ on := 5, ground := Ground.data }, { on := 4, ground := Ground.chain }], guard := none }) (v := ?_) rfl (by kernel_rfl) (by kernel_rfl) (by kernel_rfl) (fun _ _ _ h => h) (Or.inl ⟨by rfl, ?_⟩) hHeld ?_
          rotate_left
          · intro wz hSw
            (try dsimp only at hSw)
            go_simp
            all_goals (with_reducible rfl)
          try simp only [Act.put, List.setIfInBounds_toArray, List.set_cons_zero, List.set_cons_succ]
          refine wpAnyH_take (i := 7) (oi := { dst := some 114, op := Op.fieldAddr 48 (Operand.tmp 19) 3, type := 0, pos := "law.go:171", after := #[{ on := 6, ground := Ground.guard }], guard := some (6, true) }) (v := ?_) rfl (by kernel_rfl) (by kernel_rfl) (by kernel_rfl) (fun _ _ _ h => h) (Or.inl ⟨by rfl, ?_⟩) hHeld ?_
          rotate_left
          · intro wz hSw
            (try dsimp only at hSw)
            go_simp
            all_goals (with_reducible rfl)
          try simp only [Act.put, List.setIfInBounds_toArray, List.set_cons_zero, List.set_cons_succ]
          refine wpAnyH_take (i := 8) (oi := { dst := some 115, op := Op.load 4 (Operand.tmp 114), type := 4, pos := "law.go:171", after := #[{ on := 7, ground := Ground.data }, { on := 6, ground := Ground.guard }], guard := some (6, true) }) (v := ?_) rfl (by kernel_rfl) (by kernel_rfl) (by kernel_rfl) (fun _ _ _ h => h) (Or.inl ⟨by rfl, ?_⟩) hHeld ?_
          rotate_left
          · intro wz hSw
            (try dsimp only at hSw)
            go_simp
            all_goals (with_reducible rfl)
          try simp only [Act.put, List.setIfInBounds_toArray, List.set_cons_zero, List.set_cons_succ]
          refine wpAnyH_take (i := 9) (oi := { dst := some 116, op := Op.move (Operand.tmp 115), type := 4, pos := "law.go:171", after := #[{ on := 8, ground := Ground.data }, { on := 6, ground := Ground.chain }, { on := 6, ground := Ground.guard }], guard := some (6, true) }) (v := ?_) rfl (by kernel_rfl) (by kernel_rfl) (by kernel_rfl) (fun _ _ _ h => h) (Or.inl ⟨by rfl, ?_⟩) hHeld ?_
          rotate_left
          · intro wz hSw
            (try dsimp only at hSw)
            go_simp
            all_goals (with_reducible rfl)
          try simp only [Act.put, List.setIfInBounds_toArray, List.set_cons_zero, List.set_cons_succ]
          refine wpAnyH_take (i := 10) (oi := { dst := some 117, op := Op.fieldAddr 48 (Operand.tmp 19) 0, type := 0, pos := "law.go:171", after := #[{ on := 9, ground := Ground.guard }], guard := some (9, false) }) (v := undef) rfl (by kernel_rfl) (by kernel_rfl) (by kernel_rfl) (fun _ _ _ h => h) (Or.inr ⟨by rfl, rfl⟩) hHeld ?_
          try simp only [Act.put, List.setIfInBounds_toArray, List.set_cons_zero, List.set_cons_succ]
          refine wpAnyH_take (i := 11) (oi := { dst := some 118, op := Op.load 3 (Operand.tmp 117), type := 3, pos := "law.go:171", after := #[{ on := 10, ground := Ground.data }, { on := 9, ground := Ground.guard }], guard := some (9, false) }) (v := undef) rfl (by kernel_rfl) (by kernel_rfl) (by kernel_rfl) (fun _ _ _ h => h) (Or.inr ⟨by rfl, rfl⟩) hHeld ?_
          try simp only [Act.put, List.setIfInBounds_toArray, List.set_cons_zero, List.set_cons_succ]
          refine wpAnyH_take (i := 12) (oi := { dst := some 119, op := Op.fieldAddr 48 (Operand.tmp 19) 2, type := 0, pos := "law.go:171", after := #[{ on := 9, ground := Ground.guard }], guard := some (9, false) }) (v := undef) rfl (by kernel_rfl) (by kernel_rfl) (by kernel_rfl) (fun _ _ _ h => h) (Or.inr ⟨by rfl, rfl⟩) hHeld ?_
          try simp only [Act.put, List.setIfInBounds_toArray, List.set_cons_zero, List.set_cons_succ]
          refine wpAnyH_take (i := 13) (oi := { dst := some 120, op := Op.load 46 (Operand.tmp 119), type := 46, pos := "law.go:171", after := #[{ on := 12, ground := Ground.data }, { on := 9, ground := Ground.guard }], guard := some (9, false) }) (v := undef) rfl (by kernel_rfl) (by kernel_rfl) (by kernel_rfl) (fun _ _ _ h => h) (Or.inr ⟨by rfl, rfl⟩) hHeld ?_
          try simp only [Act.put, List.setIfInBounds_toArray, List.set_cons_zero, List.set_cons_succ]
          refine wpAnyH_take (i := 15) (oi := { dst := some 122, op := Op.fieldAddr 48 (Operand.tmp 19) 1, type := 0, pos := "law.go:171", after := #[{ on := 9, ground := Ground.guard }], guard := some (9, false) }) (v := undef) rfl (by kernel_rfl) (by kernel_rfl) (by kernel_rfl) (fun _ _ _ h => h) (Or.inr ⟨by rfl, rfl⟩) hHeld ?_
          try simp only [Act.put, List.setIfInBounds_toArray, List.set_cons_zero, List.set_cons_succ]
          refine wpAnyH_take (i := 16) (oi := { dst := some 123, op := Op.load 35 (Operand.tmp 122), type := 35, pos := "law.go:171", after := #[{ on := 15, ground := Ground.data }, { on := 9, ground := Ground.guard }], guard := some (9, false) }) (v := undef) rfl (by kernel_rfl) (by kernel_rfl) (by kernel_rfl) (fun _ _ _ h => h) (Or.inr ⟨by rfl, rfl⟩) hHeld ?_
          try simp only [Act.put, List.setIfInBounds_toArray, List.set_cons_zero, List.set_cons_succ]
          refine wpAnyH_ready (rs := [14]) (by kernel_rfl) (by simp) ?_
          refine AllReadyH.cons (o := { dst := some 121, op := Op.call { callee := Callee.value (Operand.func 18), args := #[Operand.tmp 118, Operand.tmp 120], argTypes := #[3, 46] }, type := 35, pos := "law.go:171", after := #[{ on := 11, ground := Ground.data }, { on := 13, ground := Ground.data }, { on := 9, ground := Ground.chain }, { on := 9, ground := Ground.guard }], guard := some (9, false) }) rfl (fun K hK => ?_) AllReadyH.nil
          rw [if_neg (Bool.eq_false_iff.1 (by rfl))]
          refine hK.out _ _ hHeld (fun hHeld => ?_)
          clear hK K
          try simp only [Act.put, List.setIfInBounds_toArray, List.set_cons_zero, List.set_cons_succ]
          refine wpAnyH_take (i := 17) (oi := { dst := some 124, op := Op.binOp BinOp.eql 35 (Operand.tmp 121) (Operand.tmp 123) 35, type := 4, pos := "law.go:171", after := #[{ on := 14, ground := Ground.data }, { on := 16, ground := Ground.data }, { on := 9, ground := Ground.guard }], guard := some (9, false) }) (v := undef) rfl (by kernel_rfl) (by kernel_rfl) (by kernel_rfl) (fun _ _ _ h => h) (Or.inr ⟨by rfl, rfl⟩) hHeld ?_
          try simp only [Act.put, List.setIfInBounds_toArray, List.set_cons_zero, List.set_cons_succ]
          refine wpAnyH_take (i := 18) (oi := { dst := some 125, op := Op.pick (Operand.tmp 116) (Operand.const (Value.bool true)) (Operand.tmp 124), type := 4, pos := "law.go:171", after := #[{ on := 9, ground := Ground.data }, { on := 17, ground := Ground.data }, { on := 6, ground := Ground.guard }], guard := some (6, true) }) (v := ?_) rfl (by kernel_rfl) (by kernel_rfl) (by kernel_rfl) (fun _ _ _ h => h) (Or.inl ⟨by rfl, ?_⟩) hHeld ?_
          rotate_left
          · intro wz hSw
            (try dsimp only at hSw)
            go_simp
            all_goals (with_reducible rfl)
          try simp only [Act.put, List.setIfInBounds_toArray, List.set_cons_zero, List.set_cons_succ]
          refine wpAnyH_take (i := 19) (oi := { dst := some 126, op := Op.pick (Operand.tmp 113) (Operand.tmp 125) (Operand.const (Value.bool false)), type := 4, pos := "law.go:171", after := #[{ on := 6, ground := Ground.data }, { on := 18, ground := Ground.data }], guard := none }) (v := ?_) rfl (by kernel_rfl) (by kernel_rfl) (by kernel_rfl) (fun _ _ _ h => h) (Or.inl ⟨by rfl, ?_⟩) hHeld ?_
          rotate_left
          · intro wz hSw
            (try dsimp only at hSw)
            go_simp
            all_goals (with_reducible rfl)
          try simp only [Act.put, List.setIfInBounds_toArray, List.set_cons_zero, List.set_cons_succ]
          refine wpAnyH_take (i := 20) (oi := { dst := some 8, op := Op.assign (Operand.tmp 126), type := 4, pos := "law.go:171", after := #[{ on := 19, ground := Ground.data }, { on := 14, ground := Ground.chain }, { on := 0, ground := Ground.phase }, { on := 1, ground := Ground.phase }, { on := 2, ground := Ground.phase }, { on := 3, ground := Ground.phase }, { on := 4, ground := Ground.phase }, { on := 5, ground := Ground.phase }, { on := 6, ground := Ground.phase }, { on := 7, ground := Ground.phase }, { on := 8, ground := Ground.phase }, { on := 9, ground := Ground.phase }, { on := 10, ground := Ground.phase }, { on := 11, ground := Ground.phase }, { on := 12, ground := Ground.phase }, { on := 13, ground := Ground.phase }, { on := 14, ground := Ground.phase }, { on := 15, ground := Ground.phase }, { on := 16, ground := Ground.phase }, { on := 17, ground := Ground.phase }, { on := 18, ground := Ground.phase }, { on := 19, ground := Ground.phase }], guard := none }) (v := ?_) rfl (by kernel_rfl) (by kernel_rfl) (by kernel_rfl) (fun _ _ _ h => h) (Or.inl ⟨by rfl, ?_⟩) hHeld ?_
          rotate_left
          · intro wz hSw
            (try dsimp only at hSw)
            go_simp
            all_goals (with_reducible rfl)
          try simp only [Act.put, List.setIfInBounds_toArray, List.set_cons_zero, List.set_cons_succ]
          refine wpAnyH_done (by kernel_rfl) ?_ _
          go_wp2_with fail
          exact hfin.out _ hHeld.2.2.2.2.2.2
        | false =>
          have hgz := Lib.hid hgq
          have hdz : Hid (∀ W, Tabs W → BW W ea en ec z.data → Calls Tryd.prog 18 #[.int .i64 z.kind, .slice ea en ec] W (DigPost z.dig W)) := fun W hT hB => by
            have h := digest_any z.kind ⟨hoz'.out.lo, hoz'.out.hi⟩ ea en ec z.data W hT hB (by omega)
            rcases hzg'.out with h' | h'
            · rw [hgq] at h'; cases h'
            · rwa [show entryD z.kind z.data = z.dig from h'.symm] at h
          clear hzg'
          refine wp_region_held_drew (S := fun wz => wz.cell? ⟨g, 0, none⟩ = some (.int .i64 z.kind) ∧ wz.rangeAt g 1 (bv z.dig) ∧ wz.cell? ⟨g, 33, none⟩ = some (.slice ea en ec) ∧ wz.cell? ⟨g, 34, none⟩ = some (.bool false) ∧ OncW w g z ea en ec wz) (by kernel_rfl) (OncW.mk' hoz'.out.dig hgz.out hOn.out.drew) (fun hHeld => ?_)
          refine wpAnyH_take (i := 0) (oi := { dst := some 107, op := Op.fieldAddr 48 (Operand.tmp 19) 1, type := 0, pos := "law.go:171", after := #[], guard := none }) (v := ?_) rfl (by kernel_rfl) (by kernel_rfl) (by kernel_rfl) (fun _ _ _ h => h) (Or.inl ⟨by rfl, ?_⟩) hHeld ?_
          rotate_left
          · intro wz hSw
            (try dsimp only at hSw)
            go_simp
            all_goals (with_reducible rfl)
          try simp only [Act.put, List.setIfInBounds_toArray, List.set_cons_zero, List.set_cons_succ]
          refine wpAnyH_take (i := 1) (oi := { dst := some 108, op := Op.load 35 (Operand.tmp 107), type := 35, pos := "law.go:171", after := #[{ on := 0, ground := Ground.data }], guard := none }) rfl (by kernel_rfl) (by kernel_rfl) (by kernel_rfl) (fun _ _ _ h => h) (yieldsIf_load_mid (by rfl) _ _ rfl g 1 rfl (bv z.dig) _ (fun _ h => h.2.1) Tryd.underlying35 rfl hdi.out) hHeld ?_
          try simp only [Act.put, List.setIfInBounds_toArray, List.set_cons_zero, List.set_cons_succ]
          refine wpAnyH_take (i := 2) (oi := { dst := some 109, op := Op.move (Operand.tmp 2), type := 3, pos := "law.go:171", after := #[], guard := none }) (v := ?_) rfl (by kernel_rfl) (by kernel_rfl) (by kernel_rfl) (fun _ _ _ h => h) (Or.inl ⟨by rfl, ?_⟩) hHeld ?_
          rotate_left
          · intro wz hSw
            (try dsimp only at hSw)
            go_simp
            all_goals (with_reducible rfl)
          try simp only [Act.put, List.setIfInBounds_toArray, List.set_cons_zero, List.set_cons_succ]
          refine wpAnyH_take (i := 3) (oi := { dst := some 110, op := Op.move (Operand.tmp 3), type := 46, pos := "law.go:171", after := #[], guard := none }) (v := ?_) rfl (by kernel_rfl) (by kernel_rfl) (by kernel_rfl) (fun _ _ _ h => h) (Or.inl ⟨by rfl, ?_⟩) hHeld ?_
          rotate_left
          · intro wz hSw
            (try dsimp only at hSw)
            go_simp
            all_goals (with_reducible rfl)
          try simp only [Act.put, List.setIfInBounds_toArray, List.set_cons_zero, List.set_cons_succ]
          refine wpAnyH_ready (rs := [4]) (by kernel_rfl) (by simp) ?_
          refine AllReadyH.cons (o := { dst := some 111, op := Op.call { callee := Callee.value (Operand.func 18), args := #[Operand.tmp 109, Operand.tmp 110], argTypes := #[3, 46] }, type := 35, pos := "law.go:171", after := #[{ on := 2, ground := Ground.data }, { on := 3, ground := Ground.data }], guard := none }) rfl (fun K hK => ?_) AllReadyH.nil
          rw [if_pos (by rfl)]
          show Oper.wp _ _ _ _ K _
          go_simp
          go_at_call 18
          refine (hdg.out _ (HT'.out.below hHeld.2.2.2.2.2.2) (HD'.out.below hHeld.2.2.2.2.2.2)).mono ?_
          rintro e w8 ⟨rfl, hb⟩
          refine hK.out _ _ (OncW.next hoz'.out.dig hgz.out hHeld hb) (fun hHeld => ?_)
          clear hK K
          try simp only [Act.put, List.setIfInBounds_toArray, List.set_cons_zero, List.set_cons_succ]
          refine wpAnyH_take (i := 5) (oi := { dst := some 112, op := Op.binOp BinOp.eql 35 (Operand.tmp 108) (Operand.tmp 111) 35, type := 4, pos := "law.go:171", after := #[{ on := 1, ground := Ground.data }, { on := 4, ground := Ground.data }], guard := none }) (v := ?_) rfl (by kernel_rfl) (by kernel_rfl) (by kernel_rfl) (fun _ _ _ h => h) (Or.inl ⟨by rfl, ?_⟩) hHeld ?_
          rotate_left
          · intro wz hSw
            (try dsimp only at hSw)
            go_simp
            all_goals (with_reducible rfl)
          try simp only [Act.put, List.setIfInBounds_toArray, List.set_cons_zero, List.set_cons_succ]
          refine wpAnyH_take (i := 6) (oi := { dst := some 113, op := Op.move (Operand.tmp 112), type := 4, pos := "law.go:171", after := #[{ on := 5, ground := Ground.data }, { on := 4, ground := Ground.chain }], guard := none }) (v := ?_) rfl (by kernel_rfl) (by kernel_rfl) (by kernel_rfl) (fun _ _ _ h => h) (Or.inl ⟨by rfl, ?_⟩) hHeld ?_
          rotate_left
          · intro wz hSw
            (try dsimp only at hSw)
            go_simp
            all_goals (with_reducible rfl)
          try simp only [Act.put, List.setIfInBounds_toArray, List.set_cons_zero, List.set_cons_succ]
          refine wpAnyH_take (i := 7) (oi := { dst := some 114, op := Op.fieldAddr 48 (Operand.tmp 19) 3, type := 0, pos := "law.go:171", after := #[{ on := 6, ground := Ground.guard }], guard := some (6, true) }) (v := ?_) rfl (by kernel_rfl) (by kernel_rfl) (by kernel_rfl) (fun _ _ _ h => h) (Or.inl ⟨by rfl, ?_⟩) hHeld ?_
          rotate_left
          · intro wz hSw
            (try dsimp only at hSw)
            go_simp
            all_goals (with_reducible rfl)
          try simp only [Act.put, List.setIfInBounds_toArray, List.set_cons_zero, List.set_cons_succ]
          refine wpAnyH_take (i := 8) (oi := { dst := some 115, op := Op.load 4 (Operand.tmp 114), type := 4, pos := "law.go:171", after := #[{ on := 7, ground := Ground.data }, { on := 6, ground := Ground.guard }], guard := some (6, true) }) (v := ?_) rfl (by kernel_rfl) (by kernel_rfl) (by kernel_rfl) (fun _ _ _ h => h) (Or.inl ⟨by rfl, ?_⟩) hHeld ?_
          rotate_left
          · intro wz hSw
            (try dsimp only at hSw)
            go_simp
            all_goals (with_reducible rfl)
          try simp only [Act.put, List.setIfInBounds_toArray, List.set_cons_zero, List.set_cons_succ]
          refine wpAnyH_take (i := 9) (oi := { dst := some 116, op := Op.move (Operand.tmp 115), type := 4, pos := "law.go:171", after := #[{ on := 8, ground := Ground.data }, { on := 6, ground := Ground.chain }, { on := 6, ground := Ground.guard }], guard := some (6, true) }) (v := ?_) rfl (by kernel_rfl) (by kernel_rfl) (by kernel_rfl) (fun _ _ _ h => h) (Or.inl ⟨by rfl, ?_⟩) hHeld ?_
          rotate_left
          · intro wz hSw
            (try dsimp only at hSw)
            go_simp
            all_goals (with_reducible rfl)
          try simp only [Act.put, List.setIfInBounds_toArray, List.set_cons_zero, List.set_cons_succ]
          refine wpAnyH_take (i := 10) (oi := { dst := some 117, op := Op.fieldAddr 48 (Operand.tmp 19) 0, type := 0, pos := "law.go:171", after := #[{ on := 9, ground := Ground.guard }], guard := some (9, false) }) (v := ?_) rfl (by kernel_rfl) (by kernel_rfl) (by kernel_rfl) (fun _ _ _ h => h) (Or.inl ⟨by rfl, ?_⟩) hHeld ?_
          rotate_left
          · intro wz hSw
            (try dsimp only at hSw)
            go_simp
            all_goals (with_reducible rfl)
          try simp only [Act.put, List.setIfInBounds_toArray, List.set_cons_zero, List.set_cons_succ]
          refine wpAnyH_take (i := 11) (oi := { dst := some 118, op := Op.load 3 (Operand.tmp 117), type := 3, pos := "law.go:171", after := #[{ on := 10, ground := Ground.data }, { on := 9, ground := Ground.guard }], guard := some (9, false) }) (v := ?_) rfl (by kernel_rfl) (by kernel_rfl) (by kernel_rfl) (fun _ _ _ h => h) (Or.inl ⟨by rfl, ?_⟩) hHeld ?_
          rotate_left
          · intro wz hSw
            (try dsimp only at hSw)
            go_simp
            all_goals (with_reducible rfl)
          try simp only [Act.put, List.setIfInBounds_toArray, List.set_cons_zero, List.set_cons_succ]
          refine wpAnyH_take (i := 12) (oi := { dst := some 119, op := Op.fieldAddr 48 (Operand.tmp 19) 2, type := 0, pos := "law.go:171", after := #[{ on := 9, ground := Ground.guard }], guard := some (9, false) }) (v := ?_) rfl (by kernel_rfl) (by kernel_rfl) (by kernel_rfl) (fun _ _ _ h => h) (Or.inl ⟨by rfl, ?_⟩) hHeld ?_
          rotate_left
          · intro wz hSw
            (try dsimp only at hSw)
            go_simp
            all_goals (with_reducible rfl)
          try simp only [Act.put, List.setIfInBounds_toArray, List.set_cons_zero, List.set_cons_succ]
          refine wpAnyH_take (i := 13) (oi := { dst := some 120, op := Op.load 46 (Operand.tmp 119), type := 46, pos := "law.go:171", after := #[{ on := 12, ground := Ground.data }, { on := 9, ground := Ground.guard }], guard := some (9, false) }) (v := ?_) rfl (by kernel_rfl) (by kernel_rfl) (by kernel_rfl) (fun _ _ _ h => h) (Or.inl ⟨by rfl, ?_⟩) hHeld ?_
          rotate_left
          · intro wz hSw
            (try dsimp only at hSw)
            go_simp
            all_goals (with_reducible rfl)
          try simp only [Act.put, List.setIfInBounds_toArray, List.set_cons_zero, List.set_cons_succ]
          refine wpAnyH_take (i := 15) (oi := { dst := some 122, op := Op.fieldAddr 48 (Operand.tmp 19) 1, type := 0, pos := "law.go:171", after := #[{ on := 9, ground := Ground.guard }], guard := some (9, false) }) (v := ?_) rfl (by kernel_rfl) (by kernel_rfl) (by kernel_rfl) (fun _ _ _ h => h) (Or.inl ⟨by rfl, ?_⟩) hHeld ?_
          rotate_left
          · intro wz hSw
            (try dsimp only at hSw)
            go_simp
            all_goals (with_reducible rfl)
          try simp only [Act.put, List.setIfInBounds_toArray, List.set_cons_zero, List.set_cons_succ]
          refine wpAnyH_take (i := 16) (oi := { dst := some 123, op := Op.load 35 (Operand.tmp 122), type := 35, pos := "law.go:171", after := #[{ on := 15, ground := Ground.data }, { on := 9, ground := Ground.guard }], guard := some (9, false) }) rfl (by kernel_rfl) (by kernel_rfl) (by kernel_rfl) (fun _ _ _ h => h) (yieldsIf_load_mid (by rfl) _ _ rfl g 1 rfl (bv z.dig) _ (fun _ h => h.2.1) Tryd.underlying35 rfl hdi.out) hHeld ?_
          try simp only [Act.put, List.setIfInBounds_toArray, List.set_cons_zero, List.set_cons_succ]
          refine wpAnyH_ready (rs := [14]) (by kernel_rfl) (by simp) ?_
          refine AllReadyH.cons (o := { dst := some 121, op := Op.call { callee := Callee.value (Operand.func 18), args := #[Operand.tmp 118, Operand.tmp 120], argTypes := #[3, 46] }, type := 35, pos := "law.go:171", after := #[{ on := 11, ground := Ground.data }, { on := 13, ground := Ground.data }, { on := 9, ground := Ground.chain }, { on := 9, ground := Ground.guard }], guard := some (9, false) }) rfl (fun K hK => ?_) AllReadyH.nil
          rw [if_pos (by rfl)]
          show Oper.wp _ _ _ _ K _
          go_simp
          go_at_call 18
          refine (hdz.out _ (HT'.out.below hHeld.2.2.2.2.2.2) (hHeld.2.2.2.2.2.1)).mono ?_
          rintro e w9 ⟨rfl, hb⟩
          refine hK.out _ _ (OncW.next hoz'.out.dig hgz.out hHeld hb) (fun hHeld => ?_)
          clear hK K
          try simp only [Act.put, List.setIfInBounds_toArray, List.set_cons_zero, List.set_cons_succ]
          refine wpAnyH_take (i := 17) (oi := { dst := some 124, op := Op.binOp BinOp.eql 35 (Operand.tmp 121) (Operand.tmp 123) 35, type := 4, pos := "law.go:171", after := #[{ on := 14, ground := Ground.data }, { on := 16, ground := Ground.data }, { on := 9, ground := Ground.guard }], guard := some (9, false) }) (v := ?_) rfl (by kernel_rfl) (by kernel_rfl) (by kernel_rfl) (fun _ _ _ h => h) (Or.inl ⟨by rfl, ?_⟩) hHeld ?_
          rotate_left
          · intro wz hSw
            (try dsimp only at hSw)
            go_simp
            all_goals (with_reducible rfl)
          try simp only [Act.put, List.setIfInBounds_toArray, List.set_cons_zero, List.set_cons_succ]
          refine wpAnyH_take (i := 18) (oi := { dst := some 125, op := Op.pick (Operand.tmp 116) (Operand.const (Value.bool true)) (Operand.tmp 124), type := 4, pos := "law.go:171", after := #[{ on := 9, ground := Ground.data }, { on := 17, ground := Ground.data }, { on := 6, ground := Ground.guard }], guard := some (6, true) }) (v := ?_) rfl (by kernel_rfl) (by kernel_rfl) (by kernel_rfl) (fun _ _ _ h => h) (Or.inl ⟨by rfl, ?_⟩) hHeld ?_
          rotate_left
          · intro wz hSw
            (try dsimp only at hSw)
            go_simp
            all_goals (with_reducible rfl)
          try simp only [Act.put, List.setIfInBounds_toArray, List.set_cons_zero, List.set_cons_succ]
          refine wpAnyH_take (i := 19) (oi := { dst := some 126, op := Op.pick (Operand.tmp 113) (Operand.tmp 125) (Operand.const (Value.bool false)), type := 4, pos := "law.go:171", after := #[{ on := 6, ground := Ground.data }, { on := 18, ground := Ground.data }], guard := none }) (v := ?_) rfl (by kernel_rfl) (by kernel_rfl) (by kernel_rfl) (fun _ _ _ h => h) (Or.inl ⟨by rfl, ?_⟩) hHeld ?_
          rotate_left
          · intro wz hSw
            (try dsimp only at hSw)
            go_simp
            all_goals (with_reducible rfl)
          try simp only [Act.put, List.setIfInBounds_toArray, List.set_cons_zero, List.set_cons_succ]
          refine wpAnyH_take (i := 20) (oi := { dst := some 8, op := Op.assign (Operand.tmp 126), type := 4, pos := "law.go:171", after := #[{ on := 19, ground := Ground.data }, { on := 14, ground := Ground.chain }, { on := 0, ground := Ground.phase }, { on := 1, ground := Ground.phase }, { on := 2, ground := Ground.phase }, { on := 3, ground := Ground.phase }, { on := 4, ground := Ground.phase }, { on := 5, ground := Ground.phase }, { on := 6, ground := Ground.phase }, { on := 7, ground := Ground.phase }, { on := 8, ground := Ground.phase }, { on := 9, ground := Ground.phase }, { on := 10, ground := Ground.phase }, { on := 11, ground := Ground.phase }, { on := 12, ground := Ground.phase }, { on := 13, ground := Ground.phase }, { on := 14, ground := Ground.phase }, { on := 15, ground := Ground.phase }, { on := 16, ground := Ground.phase }, { on := 17, ground := Ground.phase }, { on := 18, ground := Ground.phase }, { on := 19, ground := Ground.phase }], guard := none }) (v := ?_) rfl (by kernel_rfl) (by kernel_rfl) (by kernel_rfl) (fun _ _ _ h => h) (Or.inl ⟨by rfl, ?_⟩) hHeld ?_
          rotate_left
          · intro wz hSw
            (try dsimp only at hSw)
            go_simp
            all_goals (with_reducible rfl)
          try simp only [Act.put, List.setIfInBounds_toArray, List.set_cons_zero, List.set_cons_succ]
          refine wpAnyH_done (by kernel_rfl) ?_ _
          go_wp2_with fail
          exact hfin.out _ hHeld.2.2.2.2.2.2
      · obtain ⟨hno, hcase⟩ := Sto.once_err hv.out hPq.out hq
        subst hno
        have hq' : (q == 0) = false := by simp [hq]
        clear hq hPq hv hV
        rcases hcase with ⟨rfl, h | h | h | h⟩ | ⟨rfl, h1, h2, h3, h4⟩
        all_goals (clear hdn)
        · skip
          go_wp2_with (first
            | (refine wpList_store_mid (by rfl) 26 (.tmp 11) (.tmp 40) (by rfl) w3.heap.size 0 (stC x a3 x.logs.length c3).toArray (by rfl) (by rfl) hP.out.there hP.out.info (by simpa using hP.out.one) ?_
               generalize hWq : World.setCells _ _ _ _ = Wa
               obtain rfl : v3 = Wa := by rw [← hWq]; exact hP.out.eq
               clear hWq))
          exact hfin.out _ hbw.out
        · have h0 : ¬ fo < 0 := by omega
          go_wp2_with (first
            | (refine wpList_store_mid (by rfl) 26 (.tmp 11) (.tmp 40) (by rfl) w3.heap.size 0 (stC x a3 x.logs.length c3).toArray (by rfl) (by rfl) hP.out.there hP.out.info (by simpa using hP.out.one) ?_
               generalize hWq : World.setCells _ _ _ _ = Wa
               obtain rfl : v3 = Wa := by rw [← hWq]; exact hP.out.eq
               clear hWq))
          exact hfin.out _ hbw.out
        · by_cases h0 : fo < 0
          · go_wp2_with (first
              | (refine wpList_store_mid (by rfl) 26 (.tmp 11) (.tmp 40) (by rfl) w3.heap.size 0 (stC x a3 x.logs.length c3).toArray (by rfl) (by rfl) hP.out.there hP.out.info (by simpa using hP.out.one) ?_
                 generalize hWq : World.setCells _ _ _ _ = Wa
                 obtain rfl : v3 = Wa := by rw [← hWq]; exact hP.out.eq
                 clear hWq))
            exact hfin.out _ hbw.out
          · by_cases h1 : 16 ≤ fo
            · go_wp2_with (first
                | (refine wpList_store_mid (by rfl) 26 (.tmp 11) (.tmp 40) (by rfl) w3.heap.size 0 (stC x a3 x.logs.length c3).toArray (by rfl) (by rfl) hP.out.there hP.out.info (by simpa using hP.out.one) ?_
                   generalize hWq : World.setCells _ _ _ _ = Wa
                   obtain rfl : v3 = Wa := by rw [← hWq]; exact hP.out.eq
                   clear hWq))
              exact hfin.out _ hbw.out
            · go_wp2_with (first
                | (refine wpList_store_mid (by rfl) 26 (.tmp 11) (.tmp 40) (by rfl) w3.heap.size 0 (stC x a3 x.logs.length c3).toArray (by rfl) (by rfl) hP.out.there hP.out.info (by simpa using hP.out.one) ?_
                   generalize hWq : World.setCells _ _ _ _ = Wa
                   obtain rfl : v3 = Wa := by rw [← hWq]; exact hP.out.eq
                   clear hWq))
              exact hfin.out _ hbw.out
        · have h5 : ¬ kind < 1 := by omega
          by_cases h0 : fo < 0
          · go_wp2_with (first
              | (refine wpList_store_mid (by rfl) 26 (.tmp 11) (.tmp 40) (by rfl) w3.heap.size 0 (stC x a3 x.logs.length c3).toArray (by rfl) (by rfl) hP.out.there hP.out.info (by simpa using hP.out.one) ?_
                 generalize hWq : World.setCells _ _ _ _ = Wa
                 obtain rfl : v3 = Wa := by rw [← hWq]; exact hP.out.eq
                 clear hWq))
            exact hfin.out _ hbw.out
          · by_cases h1 : 16 ≤ fo
            · go_wp2_with (first
                | (refine wpList_store_mid (by rfl) 26 (.tmp 11) (.tmp 40) (by rfl) w3.heap.size 0 (stC x a3 x.logs.length c3).toArray (by rfl) (by rfl) hP.out.there hP.out.info (by simpa using hP.out.one) ?_
                   generalize hWq : World.setCells _ _ _ _ = Wa
                   obtain rfl : v3 = Wa := by rw [← hWq]; exact hP.out.eq
                   clear hWq))
              exact hfin.out _ hbw.out
            · go_wp2_with (first
                | (refine wpList_store_mid (by rfl) 26 (.tmp 11) (.tmp 40) (by rfl) w3.heap.size 0 (stC x a3 x.logs.length c3).toArray (by rfl) (by rfl) hP.out.there hP.out.info (by simpa using hP.out.one) ?_
                   generalize hWq : World.setCells _ _ _ _ = Wa
                   obtain rfl : v3 = Wa := by rw [← hWq]; exact hP.out.eq
                   clear hWq))
              exact hfin.out _ hbw.out
        · have g0 : decide (fo < 0) = false := decide_eq_false (by omega)
          have g1 : decide (16 ≤ fo) = false := decide_eq_false (by omega)
          have g2 : decide (kind < 1) = false := decide_eq_false (by omega)
          have g3 : decide (7 < kind) = false := decide_eq_false (by omega)
          go_wp2_with (first
            | (refine wpList_store_mid (by rfl) 26 (.tmp 11) (.tmp 40) (by rfl) w3.heap.size 0 (stC x a3 x.logs.length c3).toArray (by rfl) (by rfl) hP.out.there hP.out.info (by simpa using hP.out.one) ?_
               generalize hWq : World.setCells _ _ _ _ = Wa
               obtain rfl : v3 = Wa := by rw [← hWq]; exact hP.out.eq
               clear hWq))
          exact hfin.out _ hbw.out
end Go.Proofs.YtgfmdjagamjpbaaDoor
namespace Go.Proofs.YtgfmdjagamjpbaaDoor.lawOnce
open Go.ChangeShapes Go.WideShapes Go.ChangeAt Go.RowKit Go.Mem
open Go.Proofs.YtgfmdjagamjpbaaDoor

set_option maxRecDepth 100000 in
theorem lifted (os : Os) (started : os.Started) (H : Type) (enc : TypeId × Value → H) :
    ReturnsInHanded {} Tryd.checked os 4 .any (fun w args => (Rows.storeOnceSpec.pre enc Tryd.prog Tryd.f4 [] false w args ∧ laidMetH Tryd.prog laid2 w) ∧ sizedMet enc Tryd.prog Tryd.f4 (OpenSpec.ofChange Rows.storeOnceSpec) false w args)
      (Rows.storeOnceSpec.post enc Tryd.prog Tryd.f4 false true false false) := by
  refine returnsInHanded_of_change_and (C := Tryd.checked) (X := fun w _ => laidMetH Tryd.prog laid2 w) (fun _ _ _ hh h => h.of_heap hh) own started (by kernel_rfl) Tryd.func4
    (ChangeSpec.witness_shaped (enc := enc) (C := Tryd.checked) (os := os) (X := fun w _ => laidMetH Tryd.prog laid2 w) false (World.doorLaid Tryd.prog 400 os) #[.slice none 0 0, .int .i64 0, .int .i64 0, .slice none 0 0] 8 rfl (World.shaped_of_RefB (by kernel_rfl) (by kernel_rfl)) (by kernel_rfl) (by kernel_rfl) (by kernel_rfl) (door_met os _)) ?_
  intro W base args ds gs before hval0 hW _ _ hL _
  have hval : ∀ (j : Nat) t v, Tryd.f4.params[j]? = some t → args[j]? = some v → Value.okWide Tryd.prog W .any base t v := hval0
  have hW' := hW
  obtain ⟨p, q, hA0, hV, rfl, hfz, hnd⟩ := hW
  have hA : DataW.TrodAll enc Tryd.prog W 0 (fun _ => true) true Tryd.f4.params.toList args.toList ds p := hA0
  rw [Tryd.params4] at hA hval
  obtain ⟨v0, vs0, d0, ds0, p0, q0, hargs, rfl, rfl, h0, r0⟩ := trodAll_cons hA
  obtain ⟨v1, vs1, d1, ds1, p1, q1, rfl, rfl, rfl, h1, r1⟩ := trodAll_cons r0
  obtain ⟨v2, vs2, d2, ds2, p2, q2, rfl, rfl, rfl, h2, r2⟩ := trodAll_cons r1
  obtain ⟨v3, vs3, d3, ds3, p3, q3, rfl, rfl, rfl, h3, r3⟩ := trodAll_cons r2
  obtain ⟨rfl, rfl, rfl⟩ := trodAll_nil r3
  obtain rfl : args = #[v0, v1, v2, v3] := by cases args; simp_all
  obtain ⟨rfl, rfl⟩ := trodVars_none hV
  have lt0 : ∀ x ∈ p0, x.block < W.heap.size := by obtain ⟨m, hm⟩ := h0; exact DataW.trod_lt m _ _ _ hm
  have lt1 : ∀ x ∈ p1, x.block < W.heap.size := by obtain ⟨m, hm⟩ := h1; exact DataW.trod_lt m _ _ _ hm
  have lt2 : ∀ x ∈ p2, x.block < W.heap.size := by obtain ⟨m, hm⟩ := h2; exact DataW.trod_lt m _ _ _ hm
  have lt3 : ∀ x ∈ p3, x.block < W.heap.size := by obtain ⟨m, hm⟩ := h3; exact DataW.trod_lt m _ _ _ hm
  have k0' := h0
  have k1' := h1
  have k2' := h2
  have k3' := h3
  obtain ⟨a0, n0, c0, rfl⟩ := okWide_slice Tryd.underlying22 (hval 0 22 v0 rfl rfl)
  obtain ⟨l0, S0⟩ := open_steps h0
  obtain ⟨x1, rfl⟩ := okWide_int Tryd.underlying3 (hval 1 3 v1 rfl rfl)
  obtain ⟨m1, hm1⟩ := h1
  obtain ⟨x1', e1, i1⟩ := open_int1 (cs := [.int .i64 x1]) (by simpa [Value.cells] using hm1)
  obtain rfl : x1 = x1' := by simpa using e1
  clear hm1 e1
  obtain ⟨x2, rfl⟩ := okWide_int Tryd.underlying3 (hval 2 3 v2 rfl rfl)
  obtain ⟨m2, hm2⟩ := h2
  obtain ⟨x2', e2, i2⟩ := open_int1 (cs := [.int .i64 x2]) (by simpa [Value.cells] using hm2)
  obtain rfl : x2 = x2' := by simpa using e2
  clear hm2 e2
  obtain ⟨a3, n3, c3, rfl⟩ := okWide_slice Tryd.underlying46 (hval 3 46 v3 rfl rfl)
  obtain ⟨m3, hm3⟩ := h3
  obtain ⟨_, _, _, l3, e3, B3⟩ := open_bytes' (cs := [.slice a3 n3 c3]) (by simpa [Value.cells] using hm3)
  simp only [List.cons.injEq, Value.slice.injEq, and_true] at e3
  obtain ⟨rfl, rfl, rfl⟩ := e3
  clear hm3
  have hT := tabs_of_laid hL
  clear hA0 hval0
  refine (once_walk a0 n0 c0 l0 x1 x2 i1 i2 a3 n3 c3 l3 W hT S0 B3).mono fun e W' ⟨he, bel⟩ => ?_
  subst he
  exact ⟨_, rfl, _, _, _, [], _, [], hW', trodAll_mk1 (shut_bool Tryd.underlying4 _),
    (trodAll_cons_mk (Below.trod laidOut (by kernel_rfl) (of_decide_eq_true (by kernel_rfl)) k0' bel lt0) (trodAll_cons_mk (Below.trod laidOut (by kernel_rfl) (of_decide_eq_true (by kernel_rfl)) k1' bel lt1) (trodAll_cons_mk (Below.trod laidOut (by kernel_rfl) (of_decide_eq_true (by kernel_rfl)) k2' bel lt2) (trodAll_cons_mk (Below.trod laidOut (by kernel_rfl) (of_decide_eq_true (by kernel_rfl)) k3' bel lt3) trodAll_mk0)))), rfl, bel.frame _, fun h => by cases h⟩

theorem over : Rows.StoreOnceSaid :=
  OpenClaim.holds_of_wide 4 Tryd.f4 rfl rfl rfl rfl rfl rfl rfl ⟨rfl, rfl, rfl, rfl, rfl⟩ rfl rfl rfl rfl rfl (by kernel_rfl) Tryd.func4 (by kernel_rfl)
    (of_decide_eq_true (by kernel_rfl)) (by unfold Func.isWrapper; first | (rw [if_pos (by decide +kernel)]; kernel_rfl) | (rw [if_neg (by decide +kernel)]; exact ⟨rfl, rfl⟩))
    (fun os started H enc _ => lifted os started H enc)

theorem proved : Rows.StoreOnceCardSaid :=
  Claim7.holds_tied_plain_at .later [] [.data, .data] true (true, "f488a35397967aefade51eef8664caa68c041adfc501cfb8a4ac36b015989e3d") false
    over (fun _ h => by cases h) (by kernel_rfl) (fun _ h => by cases h) storeOnce_row_tie rfl ⟨rfl, rfl⟩ (by kernel_rfl) rfl
    (fun f fn hf hfn => by
      obtain rfl : f = 4 := Option.some.inj ((show Tryd.prog.funcNamed "chartroom/chartroomlaw30.StoreOnce" = some 4 by kernel_rfl).symm.trans hf) |>.symm
      obtain rfl : fn = Tryd.f4 := (Option.some.inj (Tryd.func4.symm.trans hfn)).symm
      exact ⟨by kernel_rfl, fun j t ht => by
        rw [Tryd.params4] at ht
        have hm : t ∈ [22, 3, 3, 46] := by simpa using Array.mem_of_getElem? ht
        have hall : ([22, 3, 3, 46].all fun u => !Tryd.prog.wantsStandIn u) = true := by kernel_rfl
        exact (show Tryd.prog.wantsStandIn t = false by simpa using List.all_eq_true.1 hall t hm)⟩)
    (by kernel_rfl)
#print axioms proved
end Go.Proofs.YtgfmdjagamjpbaaDoor.lawOnce

